/- Backup: what is to be done; follow. -/
import Derived.Test.YtkcddcomjbihgaaDoorBkP
namespace Go.Proofs.YtkcddcomjbihgaaDoor
open Go.RowKit
set_option linter.unusedVariables false
set_option linter.unusedSimpArgs false

/-- What is to be done: is it the whole, and the bytes. -/
structure WkE where
  whole : Bool
  b : List UInt8
def wkV (e : WkE) (u : Hd) : List Value := [.bool e.whole, .slice u.1 e.b.length u.2]
def wkCs : List WkE → List Hd → List Value
  | e :: l, u :: us => wkV e u ++ wkCs l us
  | _, _ => []
structure WkOwn (w : World) (base : Nat) (v : Value) (l : List WkE) (us : List Hd) : Prop where
  len : us.length = l.length
  own : w.ownsRow base 93 2 v l.length (wkCs l us)
  bs : ∀ i (h : i < l.length) u, us[i]? = some u → OwnB w base (.slice u.1 l[i].b.length u.2) l[i].b
theorem WkOwn.ext {w w' : World} {base : Nat} {v : Value} {l : List WkE} {us : List Hd} (h : WkOwn w base v l us) (x : Ext w w') : WkOwn w' base v l us := ⟨h.len, ownsRow_ext h.own x, fun i hi u hu => ownsRow_ext (h.bs i hi u hu) x⟩
theorem WkOwn.base {w : World} {base b2 : Nat} {v : Value} {l : List WkE} {us : List Hd} (h : WkOwn w base v l us) (x : b2 ≤ base) : WkOwn w b2 v l us := ⟨h.len, ownsRow_base h.own x, fun i hi u hu => ownsRow_base (h.bs i hi u hu) x⟩
theorem WkOwn.nil (w : World) (base : Nat) : WkOwn w base (.slice none 0 0) [] [] := ⟨rfl, World.ownsRow_nil _ _ _ _, fun i hi => absurd hi (by simp)⟩
theorem WkOwn.grownT {w w' : World} {base g : Nat} {v : Value} {l : List WkE} {us : List Hd} (h : WkOwn w base v l us) (gr : w.grownBy w' (some g)) {c : Array Value} {t : TypeId} {f : Nat × Nat} (hg : w.heap[g]? = some (.cells c t f)) (ht : t ≠ 93) (hb : t ≠ 5) : WkOwn w' base v l us :=
  ⟨h.len, ownsRow_grown h.own gr (own_neT h.own hg ht), fun i hi u hu => ownsRow_grown (h.bs i hi u hu) gr (own_neT (h.bs i hi u hu) hg hb)⟩
theorem wk_one {w : World} {base : Nat} {e : WkE} {u : Hd} (hb : base ≤ w.heap.size) (h : OwnB w base (.slice u.1 e.b.length u.2) e.b) : WkOwn (w.alloc (.cells (wkV e u).toArray 93)) base (.slice (some ⟨w.heap.size, 0, none⟩) 1 1) [e] [u] := by
  refine ⟨rfl, ?_, ?_⟩
  · have := own_new w (wkV e u) 1 2 base 93 hb rfl (by decide)
    simpa [wkCs] using this
  · intro i hi v hv
    obtain rfl : i = 0 := by simp at hi; omega
    simp only [List.getElem?_cons_zero, Option.some.injEq] at hv
    subst hv
    exact ownsRow_ext h ((Ext.refl w).alloc _)
theorem infoWk2 : (Tryd.prog.info? 93).map (fun i => (i.zero.map (·.cells.size), i.size)) = some (some 2, 2) := by kernel_rfl
def rightN (p : Pr) (n : Nt) : Bool := decide (0 < n.mark.1) && decide (n.mark.1 ≤ p.v.n)
def nextN (p : Pr) (n : Nt) : Bool := meq n.prev (lastM p) && (decide (n.mark.2 = ((lastM p).2 + 1) % 4294967296) && (decide (0 < n.mark.2) && decide ((lastM p).1 ≤ n.mark.1)))
def entryN (p : Pr) (n : Nt) : Bool := rightN p n && (nextN p n && !meq p.base m0)
def wholeN (p : Pr) (n : Nt) : Bool := rightN p n && (!p.joined || decide ((lastM p).2 < n.mark.2))
def stepP (p : Pr) : Pr := { p with joined := true, instep := true }
def joinP (p : Pr) : Pr := { p with joined := true }
def wholeP (p : Pr) (m : Mk) : Pr := { p with base := m, log := [], joined := true, instep := true }
def folP (p : Pr) (n : Nt) : Pr :=
  if n.kind = 2 then (if meq n.mark (lastM p) = true then stepP p else p)
  else if n.kind = 3 then (if hasB p n.mark = true then p else if entryN p n = true then joinP (keptP p ⟨n.mark, n.bytes⟩) else p)
  else if n.kind = 4 then (if wholeN p n = true then wholeP p n.mark else p)
  else p
def ackL (p : Pr) (m : Mk) : List LtE := [⟨otherI p, encN ⟨5, p.v.n, m, m0, []⟩⟩]
def folL (p : Pr) (n : Nt) : List LtE :=
  if n.kind = 3 then (if hasB p n.mark = true then ackL p n.mark else if entryN p n = true then ackL p n.mark else [])
  else if n.kind = 4 then (if wholeN p n = true then ackL p n.mark else if p.joined = true then ackL p (lastM p) else [])
  else []
def folW (p : Pr) (n : Nt) : List WkE :=
  if n.kind = 3 then (if hasB p n.mark = true then [] else if entryN p n = true then [⟨false, n.bytes⟩] else [])
  else if n.kind = 4 then (if wholeN p n = true then [⟨true, n.bytes⟩] else [])
  else []
/-- All blocks but one, and but rows of entries, stay. -/
def Keeps2 (w w' : World) (B : Nat) : Prop := ∀ g c t, g ≠ B → t ≠ 108 → w.heap[g]? = some (.cells c t (0, 0)) → w'.heap[g]? = some (.cells c t (0, 0))
theorem Keeps2.ext {w w' : World} {B : Nat} (x : Ext w w') : Keeps2 w w' B := fun g c t _ _ h => x.keeps h
theorem Keeps2.trans {w w1 w2 : World} {B : Nat} (h : Keeps2 w w1 B) (k : Keeps2 w1 w2 B) : Keeps2 w w2 B := fun g c t a b hh => k g c t a b (h g c t a b hh)
theorem Keeps2.grown {w w' : World} {B : Nat} (gr : w.grownBy w' (some B)) : Keeps2 w w' B := fun g c t a b h => grown_other gr h a
theorem Keeps2.own {w w' : World} {B base size n : Nat} {v : Value} {xs : List Value} (h : w.ownsRow base 108 size v n xs) (gr : w.grownBy w' v.ownBlock) : Keeps2 w w' B := fun g c t a b hh => grown_keep gr hh (own_neT h hh b)
/-- What follow gives. -/
def FolPost (w W0 : World) (base BQ : Nat) (P1 : Pr) (ls : List LtE) (ws : List WkE) (e : Ending) (w' : World) : Prop :=
  ∃ vl us v u vw uw, e = .returned (.tuple #[v, vw]) ∧ w'.heap[BQ]? = some (.cells #[.int .i64 P1.me, .int .u32 (P1.v.n : Int), .int .i64 P1.v.p, .int .i64 P1.v.b, .int .u32 (P1.base.1 : Int), .int .u32 (P1.base.2 : Int), vl, .bool P1.known, .bool P1.joined, .bool P1.instep, .int .u32 (P1.acked : Int)] 47 (0, 0)) ∧ LgFr w' base vl P1.log us ∧ LtOwn w' base v ls u ∧ WkOwn w' base vw ws uw ∧ Ext W0 w' ∧ Keeps2 w w' BQ
theorem kept_other (p : Pr) (e : LgE) : otherI (joinP (keptP p e)) = otherI p := by unfold keptP joinP; split <;> rfl
theorem kept_view (p : Pr) (e : LgE) : (joinP (keptP p e)).v.n = p.v.n := by unfold keptP joinP; split <;> rfl
theorem keptP_me (p : Pr) (e : LgE) : (keptP p e).me = p.me := by unfold keptP; split <;> rfl
theorem keptP_v (p : Pr) (e : LgE) : (keptP p e).v = p.v := by unfold keptP; split <;> rfl
theorem keptP_acked (p : Pr) (e : LgE) : (keptP p e).acked = p.acked := by unfold keptP; split <;> rfl
theorem keptP_base {p : Pr} {e : LgE} (hp : mkOk p.base) (he : mkOk e.m) (hok : ∀ x ∈ p.log, lgOk x) : mkOk (keptP p e).base := by
  unfold keptP
  split
  · show mkOk (((p.log ++ [e]).head?.map (·.m)).getD p.base)
    cases hl : p.log with
    | nil => exact he
    | cons x l => exact (hok x (by rw [hl]; exact List.mem_cons_self)).1
  · exact hp
theorem joinP_ok {p : Pr} {e : LgE} (hp : PrOk p) (he : mkOk e.m) (hok : ∀ x ∈ p.log, lgOk x) : PrOk (joinP (keptP p e)) := by
  refine ⟨?_, ?_, ?_, ?_, keptP_base hp.base he hok, ?_⟩
  · show i64Ok (keptP p e).me; rw [keptP_me]; exact hp.me
  · show (keptP p e).v.n < _; rw [keptP_v]; exact hp.vn
  · show i64Ok (keptP p e).v.p; rw [keptP_v]; exact hp.vp
  · show i64Ok (keptP p e).v.b; rw [keptP_v]; exact hp.vb
  · show (keptP p e).acked < _; rw [keptP_acked]; exact hp.acked
set_option maxHeartbeats 4000000 in
set_option maxRecDepth 100000 in
theorem bkFollow (w W0 : World) (vl vn : Value) (p : Pr) (us : List Hd) (base : Nat) (n : Nt) (BQ : Nat) (x0 : Ext W0 w) (h0 : W0.heap.size ≤ base) (hbQ : base ≤ BQ) (hQ : w.heap[BQ]? = some (.cells #[.int .i64 p.me, .int .u32 (p.v.n : Int), .int .i64 p.v.p, .int .i64 p.v.b, .int .u32 (p.base.1 : Int), .int .u32 (p.base.2 : Int), vl, .bool p.known, .bool p.joined, .bool p.instep, .int .u32 (p.acked : Int)] 47 (0, 0))) (hok : ∀ e ∈ p.log, lgOk e) (hl16 : p.log.length ≤ 16) (hus : LgOwn w base vl p.log us) (hp : PrOk p)
    (hn : NtOk n) (hb : OwnB w base vn n.bytes) (hnb : n.bytes.length ≤ 40000) (hK : Tabs W0) :
    Calls Tryd.prog 78 #[.pointer (some ⟨BQ, 0, none⟩), .agg #[.int .i64 n.kind, .int .u32 (n.view : Int), .int .u32 (n.mark.1 : Int), .int .u32 (n.mark.2 : Int), .int .u32 (n.prev.1 : Int), .int .u32 (n.prev.2 : Int), vn]] w (FolPost w W0 base BQ (folP p n) (folL p n) (folW p n)) := by
  obtain ⟨ao, cap, rfl⟩ := own_shape hus.own
  obtain ⟨an, cn, rfl⟩ := own_shape hb
  obtain ⟨P1, hP1⟩ : ∃ x, folP p n = x := ⟨_, rfl⟩
  obtain ⟨L1, hL1⟩ : ∃ x, folL p n = x := ⟨_, rfl⟩
  obtain ⟨W1, hW1⟩ : ∃ x, folW p n = x := ⟨_, rfl⟩
  rw [hP1, hL1, hW1]
  have HP1 := Lib.hid hP1
  have HL1 := Lib.hid hL1
  have HW1 := Lib.hid hW1
  obtain ⟨E, hE⟩ : ∃ x, lastM p = x := ⟨_, rfl⟩
  have HE := Lib.hid hE
  have heok : mkOk E := by rw [← hE]; exact lastM_ok hp hok
  clear hP1 hL1 hW1 hE
  have hbase : base ≤ w.heap.size := by have := block_lt hQ; omega
  have hBQ := block_lt hQ
  go_enter Tryd.func78, Tryd.ntmps78
  go_upto_region 1 with fail
  refine wp_forget (fun W => LgOwn W base (.slice ao p.log.length cap) p.log us ∧ OwnB W base (.slice an n.bytes.length cn) n.bytes ∧ Ext w W ∧ W.heap[BQ]? = some (.cells #[.int .i64 p.me, .int .u32 (p.v.n : Int), .int .i64 p.v.p, .int .i64 p.v.b, .int .u32 (p.base.1 : Int), .int .u32 (p.base.2 : Int), (.slice ao p.log.length cap), .bool p.known, .bool p.joined, .bool p.instep, .int .u32 (p.acked : Int)] 47 (0, 0)) ∧ W.heap[w.heap.size]? = some (.cells #[.pointer (some ⟨BQ, 0, none⟩)] 127 (0, 0)) ∧ W.heap[w.heap.size + 1]? = some (.cells #[.int .i64 n.kind, .int .u32 (n.view : Int), .int .u32 (n.mark.1 : Int), .int .u32 (n.mark.2 : Int), .int .u32 (n.prev.1 : Int), .int .u32 (n.prev.2 : Int), (.slice an n.bytes.length cn)] 30 (0, 0))) ⟨hus.ext (((Ext.refl w).alloc _).alloc _), ownsRow_ext hb (((Ext.refl w).alloc _).alloc _), ((Ext.refl w).alloc _).alloc _, blk_old (blk_old hQ), blk_old (heap_alloc_new w _), blk_new (by simp)⟩ ?_
  rintro W ⟨il, hb, X, bQ, b2, b3⟩
  have HIL := Lib.hid il
  have HB := Lib.hid hb
  have HX := Lib.hid X
  have h2 := block_all b2
  have hq := block_all bQ
  clear X il hb hus hQ
  go_wp2_with fail
  refine (bkLast _ _ p ⟨hok, us, HIL.out.fr.u⟩).mono ?_
  rintro e w1 ⟨rfl, y⟩
  rw [HE.out]
  have bQ := y.keeps bQ
  have b2 := y.keeps b2
  have b3 := y.keeps b3
  have HIL := Lib.hid (HIL.out.ext y)
  have HB := Lib.hid (ownsRow_ext HB.out y)
  have HX := Lib.hid (HX.out.trans y)
  have h2 := block_all b2
  have h3 := block_all b3
  have hz3 := block_lt b3
  clear y hq
  go_upto_region 2 with (((with_reducible refine at_store 27 (.tmp 6) (.tmp 13) ?_); go_must (refine wpl_store rfl 27 (.tmp 6) (.tmp 13) rfl w1.heap.size #[.int .u32 (E.1 : Int), .int .u32 (E.2 : Int)] (by rfl) (by rfl) 27 _ (heap_alloc_new w1 _) (by kernel_rfl) rfl (by kernel_rfl) ?_)))
  refine wp_forget (fun W => LgOwn W base (.slice ao p.log.length cap) p.log us ∧ OwnB W base (.slice an n.bytes.length cn) n.bytes ∧ Ext w W ∧ W.heap[BQ]? = some (.cells #[.int .i64 p.me, .int .u32 (p.v.n : Int), .int .i64 p.v.p, .int .i64 p.v.b, .int .u32 (p.base.1 : Int), .int .u32 (p.base.2 : Int), (.slice ao p.log.length cap), .bool p.known, .bool p.joined, .bool p.instep, .int .u32 (p.acked : Int)] 47 (0, 0)) ∧ W.heap[w.heap.size]? = some (.cells #[.pointer (some ⟨BQ, 0, none⟩)] 127 (0, 0)) ∧ W.heap[w.heap.size + 1]? = some (.cells #[.int .i64 n.kind, .int .u32 (n.view : Int), .int .u32 (n.mark.1 : Int), .int .u32 (n.mark.2 : Int), .int .u32 (n.prev.1 : Int), .int .u32 (n.prev.2 : Int), (.slice an n.bytes.length cn)] 30 (0, 0)) ∧ W.heap[w1.heap.size]? = some (.cells #[.int .u32 (E.1 : Int), .int .u32 (E.2 : Int)] 27 (0, 0))) ⟨?_, ?_, ?_, ?_, ?_, ?_, ?_⟩ ?_
  · have := (HIL.out.ext ((Ext.refl w1).alloc (.cells #[.int .u32 0, .int .u32 0] 27)))
    have hnew := heap_alloc_new w1 (.cells #[.int .u32 0, .int .u32 0] 27)
    exact ⟨this.len, ownsRow_grown this.own grown_setRow (own_neT this.own hnew (by decide)), fun i hi u hu => ownsRow_grown (this.bs i hi u hu) grown_setRow (own_neT (this.bs i hi u hu) hnew (by decide))⟩
  · have hnew := heap_alloc_new w1 (.cells #[.int .u32 0, .int .u32 0] 27)
    have := ownsRow_ext HB.out ((Ext.refl w1).alloc (.cells #[.int .u32 0, .int .u32 0] 27))
    exact ownsRow_grown this grown_setRow (own_neT this hnew (by decide))
  · exact (HX.out.alloc _).grown grown_setRow (fun k hk => by cases hk; exact HX.out.size)
  · exact grown_other grown_setRow (blk_old bQ) (by have := block_lt bQ; omega)
  · exact grown_other grown_setRow (blk_old b2) (by have := block_lt b2; omega)
  · exact grown_other grown_setRow (blk_old b3) (by have := block_lt b3; omega)
  · exact setRow_heap _ _ _ _ _ _ (heap_alloc_new w1 _)
  rintro W ⟨il, hb, X, bQ, b2, b3, bE⟩
  have hzE := block_lt bE
  have hzX := HX.out.size
  obtain ⟨BE, hBE⟩ : ∃ x, x = w1.heap.size := ⟨_, rfl⟩
  rw [← hBE] at bE hzE hzX hz3
  rw [← hBE]
  clear hBE h2 h3 HIL HB HX
  have HIL := Lib.hid il
  have HB := Lib.hid hb
  have HX := Lib.hid X
  have BQH := Lib.hid bQ
  have B2H := Lib.hid b2
  have B3H := Lib.hid b3
  have BEH := Lib.hid bE
  obtain ⟨R, hR⟩ : ∃ R, rightN p n = R := ⟨_, rfl⟩
  obtain ⟨N, hN⟩ : ∃ N, nextN p n = N := ⟨_, rfl⟩
  have HR := Lib.hid hR
  have HN := Lib.hid hN
  have HRo := HR
  have HNo := HN
  clear hR hN il hb X
  go_upto_region 3 with fail
  go_cut [8] from 15 to 29 (fun t8 wx => t8 = .bool R ∧ Ext W wx)
  case first =>
    have KP := fun v (h : Ext W v) => block_all (h.keeps bQ)
    have KN := fun v (h : Ext W v) => block_all (h.keeps b3)
    have K2 := fun v (h : Ext W v) => block_all (h.keeps b2)
    clear bQ b2 b3 bE
    by_cases q : 0 < n.mark.1
    · have q1 : decide (0 < n.mark.1) = true := decide_eq_true q
      have HR := Lib.hid (show decide (n.mark.1 ≤ p.v.n) = R by rw [← HR.out]; unfold rightN; rw [decide_eq_true q, Bool.true_and])
      clear q
      refine wp_region_G 15 (fun v => Ext W v) (by kernel_rfl) fun wd hqd hHeld => ?_
      refine G_pure (i := 0) (u := ?va0) rfl (by kernel_rfl) (by kernel_rfl) (by kernel_rfl) (fun _ _ _ h => h) (by decide) (Or.inl ⟨by rfl, ?hya0⟩) hHeld ?_
      case hya0 => (intro w hSw; go_simp; try with_reducible rfl)
      simp only [Act.put, List.setIfInBounds_toArray, List.set_cons_zero, List.set_cons_succ, List.getElem_toArray, List.getElem_cons_zero, List.getElem_cons_succ]
      refine G_pure (i := 1) (u := ?va1) rfl (by kernel_rfl) (by kernel_rfl) (by kernel_rfl) (fun _ _ _ h => h) (by decide) (Or.inl ⟨by rfl, ?hya1⟩) hHeld ?_
      case hya1 => (intro w hSw; go_simp; try with_reducible rfl)
      simp only [Act.put, List.setIfInBounds_toArray, List.set_cons_zero, List.set_cons_succ, List.getElem_toArray, List.getElem_cons_zero, List.getElem_cons_succ]
      refine G_take (i := 2) (u := ?va2) rfl (by kernel_rfl) (by kernel_rfl) (by kernel_rfl) (fun _ _ _ h => h) rfl (by kernel_rfl) (by decide) (by rfl) (Or.inl ⟨by rfl, ?hya2⟩) hHeld ?_
      case hya2 => (intro w hSw; go_simp; try with_reducible rfl)
      simp only [Act.put, List.setIfInBounds_toArray, List.set_cons_zero, List.set_cons_succ, List.getElem_toArray, List.getElem_cons_zero, List.getElem_cons_succ]
      refine G_pure (i := 3) (u := ?va3) rfl (by kernel_rfl) (by kernel_rfl) (by kernel_rfl) (fun _ _ _ h => h) (by decide) (Or.inl ⟨by rfl, ?hya3⟩) hHeld ?_
      case hya3 => (intro w hSw; go_simp; try with_reducible rfl)
      simp only [Act.put, List.setIfInBounds_toArray, List.set_cons_zero, List.set_cons_succ, List.getElem_toArray, List.getElem_cons_zero, List.getElem_cons_succ]
      refine G_pure (i := 4) (u := ?va4) rfl (by kernel_rfl) (by kernel_rfl) (by kernel_rfl) (fun _ _ _ h => h) (by decide) (Or.inl ⟨by rfl, ?hya4⟩) hHeld ?_
      case hya4 => (intro w hSw; go_simp; try with_reducible rfl)
      simp only [Act.put, List.setIfInBounds_toArray, List.set_cons_zero, List.set_cons_succ, List.getElem_toArray, List.getElem_cons_zero, List.getElem_cons_succ]
      refine G_pure (i := 5) (u := ?va5) rfl (by kernel_rfl) (by kernel_rfl) (by kernel_rfl) (fun _ _ _ h => h) (by decide) (Or.inl ⟨by rfl, ?hya5⟩) hHeld ?_
      case hya5 => (intro w hSw; go_simp; try with_reducible rfl)
      simp only [Act.put, List.setIfInBounds_toArray, List.set_cons_zero, List.set_cons_succ, List.getElem_toArray, List.getElem_cons_zero, List.getElem_cons_succ]
      refine G_pure (i := 6) (u := ?va6) rfl (by kernel_rfl) (by kernel_rfl) (by kernel_rfl) (fun _ _ _ h => h) (by decide) (Or.inl ⟨by rfl, ?hya6⟩) hHeld ?_
      case hya6 => (intro w hSw; go_simp; try with_reducible rfl)
      simp only [Act.put, List.setIfInBounds_toArray, List.set_cons_zero, List.set_cons_succ, List.getElem_toArray, List.getElem_cons_zero, List.getElem_cons_succ]
      refine G_take (i := 7) (u := ?va7) rfl (by kernel_rfl) (by kernel_rfl) (by kernel_rfl) (fun _ _ _ h => h) rfl (by kernel_rfl) (by decide) (by rfl) (Or.inl ⟨by rfl, ?hya7⟩) hHeld ?_
      case hya7 => (intro w hSw; go_simp; try with_reducible rfl)
      simp only [Act.put, List.setIfInBounds_toArray, List.set_cons_zero, List.set_cons_succ, List.getElem_toArray, List.getElem_cons_zero, List.getElem_cons_succ]
      refine G_take (i := 8) (u := ?va8) rfl (by kernel_rfl) (by kernel_rfl) (by kernel_rfl) (fun _ _ _ h => h) rfl (by kernel_rfl) (by decide) (by rfl) (Or.inl ⟨by rfl, ?hya8⟩) hHeld ?_
      case hya8 => (intro w hSw; go_simp; try with_reducible rfl)
      simp only [Act.put, List.setIfInBounds_toArray, List.set_cons_zero, List.set_cons_succ, List.getElem_toArray, List.getElem_cons_zero, List.getElem_cons_succ]
      refine G_pure (i := 9) (u := ?va9) rfl (by kernel_rfl) (by kernel_rfl) (by kernel_rfl) (fun _ _ _ h => h) (by decide) (Or.inl ⟨by rfl, ?hya9⟩) hHeld ?_
      case hya9 => (intro w hSw; go_simp; try with_reducible rfl)
      simp only [Act.put, List.setIfInBounds_toArray, List.set_cons_zero, List.set_cons_succ, List.getElem_toArray, List.getElem_cons_zero, List.getElem_cons_succ]
      refine G_pure (i := 10) (u := ?va10) rfl (by kernel_rfl) (by kernel_rfl) (by kernel_rfl) (fun _ _ _ h => h) (by decide) (Or.inl ⟨by rfl, ?hya10⟩) hHeld ?_
      case hya10 => (intro w hSw; go_simp; try with_reducible rfl)
      simp only [Act.put, List.setIfInBounds_toArray, List.set_cons_zero, List.set_cons_succ, List.getElem_toArray, List.getElem_cons_zero, List.getElem_cons_succ]
      refine G_pure (i := 11) (u := ?va11) rfl (by kernel_rfl) (by kernel_rfl) (by kernel_rfl) (fun _ _ _ h => h) (by decide) (Or.inl ⟨by rfl, ?hya11⟩) hHeld ?_
      case hya11 => (intro w hSw; go_simp; try with_reducible rfl)
      simp only [Act.put, List.setIfInBounds_toArray, List.set_cons_zero, List.set_cons_succ, List.getElem_toArray, List.getElem_cons_zero, List.getElem_cons_succ]
      refine G_take (i := 12) (u := ?va12) rfl (by kernel_rfl) (by kernel_rfl) (by kernel_rfl) (fun _ _ _ h => h) rfl (by kernel_rfl) (by decide) (by rfl) (Or.inl ⟨by rfl, ?hya12⟩) hHeld ?_
      case hya12 => (intro w hSw; go_simp; try with_reducible rfl)
      simp only [Act.put, List.setIfInBounds_toArray, List.set_cons_zero, List.set_cons_succ, List.getElem_toArray, List.getElem_cons_zero, List.getElem_cons_succ]
      refine G_pure (i := 13) (u := ?va13) rfl (by kernel_rfl) (by kernel_rfl) (by kernel_rfl) (fun _ _ _ h => h) (by decide) (Or.inl ⟨by rfl, ?hya13⟩) hHeld ?_
      case hya13 => (intro w hSw; go_simp; try with_reducible rfl)
      simp only [Act.put, List.setIfInBounds_toArray, List.set_cons_zero, List.set_cons_succ, List.getElem_toArray, List.getElem_cons_zero, List.getElem_cons_succ]
      refine G_pure (i := 14) (u := ?va14) rfl (by kernel_rfl) (by kernel_rfl) (by kernel_rfl) (fun _ _ _ h => h) (by decide) (Or.inl ⟨by rfl, ?hya14⟩) hHeld ?_
      case hya14 => (intro w hSw; go_simp; try with_reducible rfl)
      simp only [Act.put, List.setIfInBounds_toArray, List.set_cons_zero, List.set_cons_succ, List.getElem_toArray, List.getElem_cons_zero, List.getElem_cons_succ]
      refine G_all (rs := [15]) (by kernel_rfl) (by simp) ?_
      intro i hi; obtain rfl : i = 15 := by simpa using hi
      refine wpOp_run rfl (by rfl) ?_
      go_simp
      try refine ⟨fun e => absurd e (by decide), ?_⟩
      refine G_free _ _ _ _ (by kernel_rfl) ?_
      try simp only [Act.put, List.setIfInBounds_toArray, List.set_cons_zero, List.set_cons_succ, List.getElem_toArray, List.getElem_cons_zero, List.getElem_cons_succ]
      refine wpAny_done (by kernel_rfl) ?_ _
      refine NoPanic.normal ?_
      go_wp2_with fail
      go_meet
      exact ⟨by rw [← HR.out], hHeld⟩
    · have q1 : decide (0 < n.mark.1) = false := decide_eq_false q
      have HR := Lib.hid (show false = R by rw [← HR.out]; unfold rightN; rw [decide_eq_false q, Bool.false_and])
      clear q
      refine wp_region_G 15 (fun v => Ext W v) (by kernel_rfl) fun wd hqd hHeld => ?_
      refine G_pure (i := 0) (u := ?vb0) rfl (by kernel_rfl) (by kernel_rfl) (by kernel_rfl) (fun _ _ _ h => h) (by decide) (Or.inl ⟨by rfl, ?hyb0⟩) hHeld ?_
      case hyb0 => (intro w hSw; go_simp; try with_reducible rfl)
      simp only [Act.put, List.setIfInBounds_toArray, List.set_cons_zero, List.set_cons_succ, List.getElem_toArray, List.getElem_cons_zero, List.getElem_cons_succ]
      refine G_pure (i := 1) (u := ?vb1) rfl (by kernel_rfl) (by kernel_rfl) (by kernel_rfl) (fun _ _ _ h => h) (by decide) (Or.inl ⟨by rfl, ?hyb1⟩) hHeld ?_
      case hyb1 => (intro w hSw; go_simp; try with_reducible rfl)
      simp only [Act.put, List.setIfInBounds_toArray, List.set_cons_zero, List.set_cons_succ, List.getElem_toArray, List.getElem_cons_zero, List.getElem_cons_succ]
      refine G_take (i := 2) (u := ?vb2) rfl (by kernel_rfl) (by kernel_rfl) (by kernel_rfl) (fun _ _ _ h => h) rfl (by kernel_rfl) (by decide) (by rfl) (Or.inl ⟨by rfl, ?hyb2⟩) hHeld ?_
      case hyb2 => (intro w hSw; go_simp; try with_reducible rfl)
      simp only [Act.put, List.setIfInBounds_toArray, List.set_cons_zero, List.set_cons_succ, List.getElem_toArray, List.getElem_cons_zero, List.getElem_cons_succ]
      refine G_pure (i := 3) (u := ?vb3) rfl (by kernel_rfl) (by kernel_rfl) (by kernel_rfl) (fun _ _ _ h => h) (by decide) (Or.inl ⟨by rfl, ?hyb3⟩) hHeld ?_
      case hyb3 => (intro w hSw; go_simp; try with_reducible rfl)
      simp only [Act.put, List.setIfInBounds_toArray, List.set_cons_zero, List.set_cons_succ, List.getElem_toArray, List.getElem_cons_zero, List.getElem_cons_succ]
      refine G_pure (i := 4) (u := ?vb4) rfl (by kernel_rfl) (by kernel_rfl) (by kernel_rfl) (fun _ _ _ h => h) (by decide) (Or.inl ⟨by rfl, ?hyb4⟩) hHeld ?_
      case hyb4 => (intro w hSw; go_simp; try with_reducible rfl)
      simp only [Act.put, List.setIfInBounds_toArray, List.set_cons_zero, List.set_cons_succ, List.getElem_toArray, List.getElem_cons_zero, List.getElem_cons_succ]
      refine G_pure (i := 5) (u := undef) rfl (by kernel_rfl) (by kernel_rfl) (by kernel_rfl) (fun _ _ _ h => h) (by decide) (Or.inr ⟨by rfl, rfl⟩) hHeld ?_
      simp only [Act.put, List.setIfInBounds_toArray, List.set_cons_zero, List.set_cons_succ, List.getElem_toArray, List.getElem_cons_zero, List.getElem_cons_succ]
      refine G_pure (i := 6) (u := undef) rfl (by kernel_rfl) (by kernel_rfl) (by kernel_rfl) (fun _ _ _ h => h) (by decide) (Or.inr ⟨by rfl, rfl⟩) hHeld ?_
      simp only [Act.put, List.setIfInBounds_toArray, List.set_cons_zero, List.set_cons_succ, List.getElem_toArray, List.getElem_cons_zero, List.getElem_cons_succ]
      refine G_take (i := 7) (u := undef) rfl (by kernel_rfl) (by kernel_rfl) (by kernel_rfl) (fun _ _ _ h => h) rfl (by kernel_rfl) (by decide) (by rfl) (Or.inr ⟨by rfl, rfl⟩) hHeld ?_
      simp only [Act.put, List.setIfInBounds_toArray, List.set_cons_zero, List.set_cons_succ, List.getElem_toArray, List.getElem_cons_zero, List.getElem_cons_succ]
      refine G_take (i := 8) (u := undef) rfl (by kernel_rfl) (by kernel_rfl) (by kernel_rfl) (fun _ _ _ h => h) rfl (by kernel_rfl) (by decide) (by rfl) (Or.inr ⟨by rfl, rfl⟩) hHeld ?_
      simp only [Act.put, List.setIfInBounds_toArray, List.set_cons_zero, List.set_cons_succ, List.getElem_toArray, List.getElem_cons_zero, List.getElem_cons_succ]
      refine G_pure (i := 9) (u := undef) rfl (by kernel_rfl) (by kernel_rfl) (by kernel_rfl) (fun _ _ _ h => h) (by decide) (Or.inr ⟨by rfl, rfl⟩) hHeld ?_
      simp only [Act.put, List.setIfInBounds_toArray, List.set_cons_zero, List.set_cons_succ, List.getElem_toArray, List.getElem_cons_zero, List.getElem_cons_succ]
      refine G_pure (i := 10) (u := undef) rfl (by kernel_rfl) (by kernel_rfl) (by kernel_rfl) (fun _ _ _ h => h) (by decide) (Or.inr ⟨by rfl, rfl⟩) hHeld ?_
      simp only [Act.put, List.setIfInBounds_toArray, List.set_cons_zero, List.set_cons_succ, List.getElem_toArray, List.getElem_cons_zero, List.getElem_cons_succ]
      refine G_pure (i := 11) (u := undef) rfl (by kernel_rfl) (by kernel_rfl) (by kernel_rfl) (fun _ _ _ h => h) (by decide) (Or.inr ⟨by rfl, rfl⟩) hHeld ?_
      simp only [Act.put, List.setIfInBounds_toArray, List.set_cons_zero, List.set_cons_succ, List.getElem_toArray, List.getElem_cons_zero, List.getElem_cons_succ]
      refine G_take (i := 12) (u := undef) rfl (by kernel_rfl) (by kernel_rfl) (by kernel_rfl) (fun _ _ _ h => h) rfl (by kernel_rfl) (by decide) (by rfl) (Or.inr ⟨by rfl, rfl⟩) hHeld ?_
      simp only [Act.put, List.setIfInBounds_toArray, List.set_cons_zero, List.set_cons_succ, List.getElem_toArray, List.getElem_cons_zero, List.getElem_cons_succ]
      refine G_pure (i := 13) (u := undef) rfl (by kernel_rfl) (by kernel_rfl) (by kernel_rfl) (fun _ _ _ h => h) (by decide) (Or.inr ⟨by rfl, rfl⟩) hHeld ?_
      simp only [Act.put, List.setIfInBounds_toArray, List.set_cons_zero, List.set_cons_succ, List.getElem_toArray, List.getElem_cons_zero, List.getElem_cons_succ]
      refine G_pure (i := 14) (u := ?vb14) rfl (by kernel_rfl) (by kernel_rfl) (by kernel_rfl) (fun _ _ _ h => h) (by decide) (Or.inl ⟨by rfl, ?hyb14⟩) hHeld ?_
      case hyb14 => (intro w hSw; go_simp; try with_reducible rfl)
      simp only [Act.put, List.setIfInBounds_toArray, List.set_cons_zero, List.set_cons_succ, List.getElem_toArray, List.getElem_cons_zero, List.getElem_cons_succ]
      refine G_all (rs := [15]) (by kernel_rfl) (by simp) ?_
      intro i hi; obtain rfl : i = 15 := by simpa using hi
      refine wpOp_run rfl (by rfl) ?_
      go_simp
      try refine ⟨fun e => absurd e (by decide), ?_⟩
      refine G_free _ _ _ _ (by kernel_rfl) ?_
      try simp only [Act.put, List.setIfInBounds_toArray, List.set_cons_zero, List.set_cons_succ, List.getElem_toArray, List.getElem_cons_zero, List.getElem_cons_succ]
      refine wpAny_done (by kernel_rfl) ?_ _
      refine NoPanic.normal ?_
      go_wp2_with fail
      go_meet
      exact ⟨by rw [← HR.out], hHeld⟩
  case rest =>
    obtain ⟨rfl, y⟩ := hcut
    obtain ⟨w2, rfl⟩ : ∃ v, v = wc := ⟨_, rfl⟩
    have bQ := y.keeps bQ
    have b2 := y.keeps b2
    have b3 := y.keeps b3
    have bE := y.keeps bE
    have HIL := Lib.hid (HIL.out.ext y)
    have HB := Lib.hid (ownsRow_ext HB.out y)
    have HX := Lib.hid (HX.out.trans y)
    have h2 := block_all b2
    have h3 := block_all b3
    have hE := block_all bE
    have hz2 := HX.out.size
    clear y BQH B2H B3H BEH
    have hme := mkEql
    have hme0 := mkEql0
    have HN := Lib.hid (show (meq n.prev E && (decide (n.mark.2 = (E.2 + 1) % 4294967296) && (decide (0 < n.mark.2) && decide (E.1 ≤ n.mark.1)))) = N by rw [← HN.out]; unfold nextN; rw [HE.out])
    have hE2 := heok.2
    go_upto_region 4 with fail
    go_cut [1, 9] from 30 to 56 (fun t1 t9 wx => t9 = .bool N ∧ Ext w2 wx)
    case first =>
      go_wp2_with fail
      all_goals
        go_meet
        refine ⟨congrArg Value.bool ?_, Ext.refl _⟩
        rw [← HN.out]
        first
          | (rw [‹meq n.prev E = false›, Bool.false_and])
          | (rw [‹meq n.prev E = true›, Bool.true_and, decide_eq_true (show n.mark.2 = (E.2 + 1) % 4294967296 by omega), Bool.true_and, decide_eq_true (show 0 < n.mark.2 by omega), Bool.true_and])
          | (rw [‹meq n.prev E = true›, Bool.true_and, decide_eq_false (show ¬ n.mark.2 = (E.2 + 1) % 4294967296 by omega), Bool.false_and])
          | (rw [‹meq n.prev E = true›, Bool.true_and, decide_eq_true (show n.mark.2 = (E.2 + 1) % 4294967296 by omega), Bool.true_and, decide_eq_false (show ¬ 0 < n.mark.2 by omega), Bool.false_and])
    case rest =>
      obtain ⟨rfl, y⟩ := hcut
      obtain ⟨w3, rfl⟩ : ∃ v, v = wc := ⟨_, rfl⟩
      have bQ := y.keeps bQ
      have b2 := y.keeps b2
      have b3 := y.keeps b3
      have bE := y.keeps bE
      have HIL := Lib.hid (HIL.out.ext y)
      have HB := Lib.hid (ownsRow_ext HB.out y)
      have HX := Lib.hid (HX.out.trans y)
      have h2 := block_all b2
      have h3 := block_all b3
      have hE := block_all bE
      have hz2 := HX.out.size
      clear y hme0
      have hX0 := x0.trans HX.out
      have HX0 := Lib.hid hX0
      clear hX0
      by_cases k2 : n.kind = 2
      · have t2 : (n.kind == 2) = true := by rw [beq_iff_eq]; exact k2
        have hP : P1 = if meq n.mark E = true then stepP p else p := by rw [← HP1.out]; unfold folP; rw [if_pos k2, HE.out]
        have hL : L1 = [] := by rw [← HL1.out]; unfold folL; rw [if_neg (by omega), if_neg (by omega)]
        have hW : W1 = [] := by rw [← HW1.out]; unfold folW; rw [if_neg (by omega), if_neg (by omega)]
        subst hL
        subst hW
        clear k2
        cases hm : meq n.mark E with
        | false =>
          rw [hm, if_neg (by decide)] at hP
          subst hP
          go_wp2_with fail
          go_ret2
          exact ⟨_, us, _, _, _, _, rfl, bQ, HIL.out.fr, LtOwn.nil _ _, WkOwn.nil _ _, HX0.out, Keeps2.ext HX.out⟩
        | true =>
          rw [hm, if_pos rfl] at hP
          subst hP
          go_upto_region 8 with fail
          obtain ⟨S, hS⟩ : ∃ S : World → Prop, S = fun v => v.heap[w.heap.size]? = some (.cells #[.pointer (some ⟨BQ, 0, none⟩)] 127 (0, 0)) ∧ v.heap[w.heap.size + 1]? = some (.cells #[.int .i64 n.kind, .int .u32 (n.view : Int), .int .u32 (n.mark.1 : Int), .int .u32 (n.mark.2 : Int), .int .u32 (n.prev.1 : Int), .int .u32 (n.prev.2 : Int), (.slice an n.bytes.length cn)] 30 (0, 0)) := ⟨_, rfl⟩
          have K2 : ∀ v, S v → ∀ i, v.cell? ⟨w.heap.size, i, none⟩ = (#[.pointer (some ⟨BQ, 0, none⟩)] : Array Value)[i]? := fun v h => block_all (show v.heap[w.heap.size]? = some (.cells #[.pointer (some ⟨BQ, 0, none⟩)] 127 (0, 0)) from by rw [hS] at h; exact h.1)
          have K3 : ∀ v, S v → ∀ i, v.cell? ⟨w.heap.size + 1, i, none⟩ = (#[.int .i64 n.kind, .int .u32 (n.view : Int), .int .u32 (n.mark.1 : Int), .int .u32 (n.mark.2 : Int), .int .u32 (n.prev.1 : Int), .int .u32 (n.prev.2 : Int), (.slice an n.bytes.length cn)] : Array Value)[i]? := fun v h => block_all (show v.heap[w.heap.size + 1]? = some (.cells #[.int .i64 n.kind, .int .u32 (n.view : Int), .int .u32 (n.mark.1 : Int), .int .u32 (n.mark.2 : Int), .int .u32 (n.prev.1 : Int), .int .u32 (n.prev.2 : Int), (.slice an n.bytes.length cn)] 30 (0, 0)) from by rw [hS] at h; exact h.2)
          have HS := Lib.hid hS
          have BQH := Lib.hid bQ
          have B2H := Lib.hid b2
          have B3H := Lib.hid b3
          clear hS bQ b2 b3 bE h2 h3 hE hme

          refine wp_region_G 7 (S) (by kernel_rfl) fun wd hqd hHeld => ?_
          have hE : Ext w3 wd := hHeld
          have bP := hE.keeps BQH.out
          have hHeld : S wd := (by rw [HS.out]; exact ⟨hE.keeps B2H.out, hE.keeps B3H.out⟩)
          refine G_take (i := 0) (u := ?vc1_0) rfl (by kernel_rfl) (by kernel_rfl) (by kernel_rfl) (fun _ _ _ h => h) rfl (by kernel_rfl) (by decide) (by rfl) (Or.inl ⟨by rfl, ?hyc1_0⟩) hHeld ?_
          case hyc1_0 => (intro w hSw; have kk := K2 _ hSw; go_simp; try with_reducible rfl)
          simp only [Act.put, List.setIfInBounds_toArray, List.set_cons_zero, List.set_cons_succ, List.getElem_toArray, List.getElem_cons_zero, List.getElem_cons_succ]
          refine G_take (i := 1) (u := ?vc2_1) rfl (by kernel_rfl) (by kernel_rfl) (by kernel_rfl) (fun _ _ _ h => h) rfl (by kernel_rfl) (by decide) (by rfl) (Or.inl ⟨by rfl, ?hyc2_1⟩) hHeld ?_
          case hyc2_1 => (intro w hSw; have kk := K2 _ hSw; go_simp; try with_reducible rfl)
          simp only [Act.put, List.setIfInBounds_toArray, List.set_cons_zero, List.set_cons_succ, List.getElem_toArray, List.getElem_cons_zero, List.getElem_cons_succ]
          refine G_pure (i := 2) (u := ?vc3_2) rfl (by kernel_rfl) (by kernel_rfl) (by kernel_rfl) (fun _ _ _ h => h) (by decide) (Or.inl ⟨by rfl, ?hyc3_2⟩) hHeld ?_
          case hyc3_2 => (intro w hSw; go_simp; try with_reducible rfl)
          simp only [Act.put, List.setIfInBounds_toArray, List.set_cons_zero, List.set_cons_succ, List.getElem_toArray, List.getElem_cons_zero, List.getElem_cons_succ]
          refine G_pure (i := 3) (u := ?vc4_3) rfl (by kernel_rfl) (by kernel_rfl) (by kernel_rfl) (fun _ _ _ h => h) (by decide) (Or.inl ⟨by rfl, ?hyc4_3⟩) hHeld ?_
          case hyc4_3 => (intro w hSw; go_simp; try with_reducible rfl)
          simp only [Act.put, List.setIfInBounds_toArray, List.set_cons_zero, List.set_cons_succ, List.getElem_toArray, List.getElem_cons_zero, List.getElem_cons_succ]
          refine G_all (rs := [4]) (by kernel_rfl) (by simp) ?_
          intro i hi; obtain rfl : i = 4 := by simpa using hi
          refine wpOp_run rfl (by rfl) ?_
          have bq := block_setCell bP (i := 8) (.bool true)
          have ff := fun i => block_free bP i
          have kk := block_all bP
          go_simp
          have hHeld : S (wd.setCell ⟨BQ, 8, none⟩ (.bool true)) := (by rw [HS.out]; exact ⟨set_other (hE.keeps B2H.out) (by omega), set_other (hE.keeps B3H.out) (by omega)⟩)
          first | refine ⟨fun _ => hHeld, ?_⟩ | refine ⟨hHeld, ?_⟩
          try simp only [Act.put, List.setIfInBounds_toArray, List.set_cons_zero, List.set_cons_succ, List.getElem_toArray, List.getElem_cons_zero, List.getElem_cons_succ]
          refine G_pure (i := 5) (u := ?vc5_5) rfl (by kernel_rfl) (by kernel_rfl) (by kernel_rfl) (fun _ _ _ h => h) (by decide) (Or.inl ⟨by rfl, ?hyc5_5⟩) hHeld ?_
          case hyc5_5 => (intro w hSw; go_simp; try with_reducible rfl)
          simp only [Act.put, List.setIfInBounds_toArray, List.set_cons_zero, List.set_cons_succ, List.getElem_toArray, List.getElem_cons_zero, List.getElem_cons_succ]
          refine G_pure (i := 6) (u := ?vc6_6) rfl (by kernel_rfl) (by kernel_rfl) (by kernel_rfl) (fun _ _ _ h => h) (by decide) (Or.inl ⟨by rfl, ?hyc6_6⟩) hHeld ?_
          case hyc6_6 => (intro w hSw; go_simp; try with_reducible rfl)
          simp only [Act.put, List.setIfInBounds_toArray, List.set_cons_zero, List.set_cons_succ, List.getElem_toArray, List.getElem_cons_zero, List.getElem_cons_succ]
          refine G_all (rs := [7]) (by kernel_rfl) (by simp) ?_
          intro i hi; obtain rfl : i = 7 := by simpa using hi
          refine wpOp_run rfl (by rfl) ?_
          have kk := block_all bq
          have ff := fun i => block_free bq i
          go_simp
          try refine ⟨fun e => absurd e (by decide), ?_⟩
          refine G_free _ _ _ _ (by kernel_rfl) ?_
          try simp only [Act.put, List.setIfInBounds_toArray, List.set_cons_zero, List.set_cons_succ, List.getElem_toArray, List.getElem_cons_zero, List.getElem_cons_succ]
          refine wpAny_done (by kernel_rfl) ?_ _
          refine NoPanic.normal ?_
          skip
          have b4 : ((wd.setCell ⟨BQ, 8, none⟩ (.bool true)).setCell ⟨BQ, 9, none⟩ (.bool true)).heap[BQ]? = some (.cells #[.int .i64 (stepP p).me, .int .u32 ((stepP p).v.n : Int), .int .i64 (stepP p).v.p, .int .i64 (stepP p).v.b, .int .u32 ((stepP p).base.1 : Int), .int .u32 ((stepP p).base.2 : Int), (.slice ao p.log.length cap), .bool (stepP p).known, .bool (stepP p).joined, .bool (stepP p).instep, .int .u32 ((stepP p).acked : Int)] 47 (0, 0)) := by
            have := block_setCell bq (i := 9) (.bool true)
            simpa [stepP] using this
          have gr := grown_trans (grown_setCell wd BQ 8 (.bool true)) (grown_setCell _ BQ 9 (.bool true))
          have il := (HIL.out.fr.ext hE).grown gr bP (by decide) (by decide)
          have xx := (HX0.out.trans hE).grown gr (fun k hk => by cases hk; omega)
          have G := (Keeps2.ext (HX.out.trans hE)).trans (Keeps2.grown gr)
          clear kk ff bq bP gr
          go_wp2_with fail
          go_ret2
          exact ⟨_, us, _, _, _, _, rfl, b4, il, LtOwn.nil _ _, WkOwn.nil _ _, xx, G⟩

      · by_cases k3 : n.kind = 3
        · have t2 : (n.kind == 2) = false := by rw [beq_eq_false_iff_ne]; exact k2
          have t3 : (n.kind == 3) = true := by rw [beq_iff_eq]; exact k3
          have hP : P1 = if hasB p n.mark = true then p else if entryN p n = true then joinP (keptP p ⟨n.mark, n.bytes⟩) else p := by rw [← HP1.out]; unfold folP; rw [if_neg k2, if_pos k3]
          have hL : L1 = if hasB p n.mark = true then ackL p n.mark else if entryN p n = true then ackL p n.mark else [] := by rw [← HL1.out]; unfold folL; rw [if_pos k3]
          have hW : W1 = if hasB p n.mark = true then [] else if entryN p n = true then [⟨false, n.bytes⟩] else [] := by rw [← HW1.out]; unfold folW; rw [if_pos k3]
          clear k2 k3
          obtain ⟨H, hH⟩ : ∃ H, hasB p n.mark = H := ⟨_, rfl⟩
          have HH := Lib.hid hH
          rw [hH] at hP hL hW
          clear hH
          go_upto_region 10 with fail
          have KQ := fun v (h : Ext w3 v) => block_all (h.keeps bQ)
          have K2 := fun v (h : Ext w3 v) => block_all (h.keeps b2)
          have K3 := fun v (h : Ext w3 v) => block_all (h.keeps b3)
          refine wp_region_G 6 (fun v => Ext w3 v) (by kernel_rfl) fun wd hqd hHeld => ?_
          refine C_take (i := 0) (u := ?vd0) [1, 2, 5, 6] rfl (by kernel_rfl) (by kernel_rfl) (by kernel_rfl) (fun _ _ _ h => h) (by kernel_rfl) (by kernel_rfl) (by kernel_rfl) (by kernel_rfl) (Or.inl ⟨by rfl, ?hyd0⟩) hHeld ?_
          case hyd0 => (intro w hSw; go_simp; try with_reducible rfl)
          simp only [Act.put, List.setIfInBounds_toArray, List.set_cons_zero, List.set_cons_succ, List.getElem_toArray, List.getElem_cons_zero, List.getElem_cons_succ]
          refine G_pure (i := 1) (u := ?vd1) rfl (by kernel_rfl) (by kernel_rfl) (by kernel_rfl) (fun _ _ _ h => h) (by decide) (Or.inl ⟨by rfl, ?hyd1⟩) hHeld ?_
          case hyd1 => (intro w hSw; go_simp; try with_reducible rfl)
          simp only [Act.put, List.setIfInBounds_toArray, List.set_cons_zero, List.set_cons_succ, List.getElem_toArray, List.getElem_cons_zero, List.getElem_cons_succ]
          refine C_take (i := 2) (u := ?vd2) [5, 6] rfl (by kernel_rfl) (by kernel_rfl) (by kernel_rfl) (fun _ _ _ h => h) (by kernel_rfl) (by kernel_rfl) (by kernel_rfl) (by kernel_rfl) (Or.inl ⟨by rfl, ?hyd2⟩) hHeld ?_
          case hyd2 => (intro w hSw; go_simp; try with_reducible rfl)
          simp only [Act.put, List.setIfInBounds_toArray, List.set_cons_zero, List.set_cons_succ, List.getElem_toArray, List.getElem_cons_zero, List.getElem_cons_succ]
          refine G_pure (i := 3) (u := ?vd3) rfl (by kernel_rfl) (by kernel_rfl) (by kernel_rfl) (fun _ _ _ h => h) (by decide) (Or.inl ⟨by rfl, ?hyd3⟩) hHeld ?_
          case hyd3 => (intro w hSw; go_simp; try with_reducible rfl)
          simp only [Act.put, List.setIfInBounds_toArray, List.set_cons_zero, List.set_cons_succ, List.getElem_toArray, List.getElem_cons_zero, List.getElem_cons_succ]
          refine C_take (i := 4) (u := ?vd4) [5, 6] rfl (by kernel_rfl) (by kernel_rfl) (by kernel_rfl) (fun _ _ _ h => h) (by kernel_rfl) (by kernel_rfl) (by kernel_rfl) (by kernel_rfl) (Or.inl ⟨by rfl, ?hyd4⟩) hHeld ?_
          case hyd4 => (intro w hSw; go_simp; try with_reducible rfl)
          simp only [Act.put, List.setIfInBounds_toArray, List.set_cons_zero, List.set_cons_succ, List.getElem_toArray, List.getElem_cons_zero, List.getElem_cons_succ]
          refine G_all (rs := [5]) (by kernel_rfl) (by simp) ?_
          intro i hi; obtain rfl : i = 5 := by simpa using hi
          refine wpOp_run rfl (by rfl) ?_
          go_simp
          refine Calls.mono (bkHas _ _ p n.mark ⟨hok, us, (HIL.out.ext hHeld).fr.u⟩) ?_
          rintro e w4 ⟨rfl, x4⟩
          rw [HH.out]
          have hHeld := hHeld.trans x4
          first | refine ⟨fun _ => hHeld, ?_⟩ | refine ⟨hHeld, ?_⟩
          try simp only [Act.put, List.setIfInBounds_toArray, List.set_cons_zero, List.set_cons_succ, List.getElem_toArray, List.getElem_cons_zero, List.getElem_cons_succ]
          refine G_all (rs := [6]) (by kernel_rfl) (by simp) ?_
          intro i hi; obtain rfl : i = 6 := by simpa using hi
          refine wpOp_run rfl (by rfl) ?_
          go_simp
          try refine ⟨fun e => absurd e (by decide), ?_⟩
          refine G_free _ _ _ _ (by kernel_rfl) ?_
          try simp only [Act.put, List.setIfInBounds_toArray, List.set_cons_zero, List.set_cons_succ, List.getElem_toArray, List.getElem_cons_zero, List.getElem_cons_succ]
          refine wpAny_done (by kernel_rfl) ?_ _
          refine NoPanic.normal ?_
          have bQ := hHeld.keeps bQ
          have b2 := hHeld.keeps b2
          have b3 := hHeld.keeps b3
          have HIL := Lib.hid (HIL.out.ext hHeld)
          have HB := Lib.hid (ownsRow_ext HB.out hHeld)
          have HX := Lib.hid (HX.out.trans hHeld)
          have HX0 := Lib.hid (HX0.out.trans hHeld)
          have h2 := block_all b2
          have h3 := block_all b3
          clear KQ K2 K3 hE bE hHeld x4
          obtain ⟨w3, rfl⟩ : ∃ v, v = w4 := ⟨_, rfl⟩
          cases hH : H with
          | true =>
            subst hH
            rw [if_pos rfl] at hP hL hW
            subst hP
            subst hL
            subst hW
            go_wp2_with fail
            refine (bkAck _ _ P1 n.mark w.heap.size BQ _ b2 bQ hp hn.mark (hK.ext HX0.out)).mono ?_
            rintro e w7 ⟨v7, u7, rfl, il7, x7⟩
            have bQ := x7.keeps bQ
            have il7 := il7.base (show base ≤ w3.heap.size by have := block_lt b3; omega)
            go_wp2_with fail
            go_ret2
            exact ⟨_, us, _, _, _, _, rfl, bQ, (HIL.out.ext x7).fr, il7, WkOwn.nil _ _, HX0.out.trans x7, Keeps2.ext (HX.out.trans x7)⟩
          | false =>
            subst hH
            rw [if_neg (by decide)] at hP hL hW
            have hmn := mkNeq0
            have hq := block_all bQ
            obtain ⟨EN, hEN⟩ : ∃ EN, entryN p n = EN := ⟨_, rfl⟩
            rw [hEN] at hP hL hW
            have HEN := Lib.hid (show (R && (N && !meq p.base m0)) = EN by rw [← hEN, ← HRo.out, ← HNo.out]; rfl)
            clear hEN
            go_upto_region 12 with fail
            go_cut [8, 9, 84] from 85 to 96 (fun t8 t9 t84 wx => t84 = .bool EN ∧ Ext w3 wx)
            case first =>
              go_wp2_with fail
              all_goals
                go_meet
                refine ⟨congrArg Value.bool ?_, Ext.refl _⟩
                rw [← HEN.out]
                simp only [*, Bool.true_and, Bool.false_and, Bool.and_true, Bool.and_false, Bool.not_true, Bool.not_false]
            case rest =>
              obtain ⟨rfl, y⟩ := hcut
              obtain ⟨w4, rfl⟩ : ∃ v, v = wc := ⟨_, rfl⟩
              have bQ := y.keeps bQ
              have b2 := y.keeps b2
              have b3 := y.keeps b3
              have HIL := Lib.hid (HIL.out.ext y)
              have HB := Lib.hid (ownsRow_ext HB.out y)
              have HX := Lib.hid (HX.out.trans y)
              have HX0 := Lib.hid (HX0.out.trans y)
              clear y hmn h2 h3 hq
              have h2 := block_all b2
              have h3 := block_all b3
              obtain ⟨w3, rfl⟩ : ∃ v, v = w4 := ⟨_, rfl⟩
              cases hEN : EN with
              | false =>
                subst hEN
                rw [if_neg (by decide)] at hP hL hW
                subst hP
                subst hL
                subst hW
                go_wp2_with fail
                go_ret2
                exact ⟨_, us, _, _, _, _, rfl, bQ, HIL.out.fr, LtOwn.nil _ _, WkOwn.nil _ _, HX0.out, Keeps2.ext HX.out⟩
              | true =>
                subst hEN
                rw [if_pos rfl] at hP hL hW
                have HJ := Lib.hid (joinP_ok (e := ⟨n.mark, n.bytes⟩) hp hn.mark hok)
                obtain ⟨K, hKe⟩ : ∃ K, keptP p ⟨n.mark, n.bytes⟩ = K := ⟨_, rfl⟩
                have hLa : ackL p n.mark = [⟨otherI (joinP K), encN ⟨5, (joinP K).v.n, n.mark, m0, []⟩⟩] := by unfold ackL; rw [← hKe, kept_other, kept_view]
                rw [hKe] at hP HJ
                rw [hLa] at hL
                subst hP
                subst hL
                subst hW
                have HKe := Lib.hid hKe
                clear hKe hLa
                go_upto_region 13 with fail
                have hE : True := trivial
                have hme : True := trivial
                have bE : True := trivial
                obtain ⟨S, hS⟩ : ∃ S : World → Prop, S = fun v => v.heap[w.heap.size]? = some (.cells #[.pointer (some ⟨BQ, 0, none⟩)] 127 (0, 0)) ∧ v.heap[w.heap.size + 1]? = some (.cells #[.int .i64 n.kind, .int .u32 (n.view : Int), .int .u32 (n.mark.1 : Int), .int .u32 (n.mark.2 : Int), .int .u32 (n.prev.1 : Int), .int .u32 (n.prev.2 : Int), (.slice an n.bytes.length cn)] 30 (0, 0)) ∧ v.heap[BQ]? = some (.cells #[.int .i64 p.me, .int .u32 (p.v.n : Int), .int .i64 p.v.p, .int .i64 p.v.b, .int .u32 (p.base.1 : Int), .int .u32 (p.base.2 : Int), (.slice ao p.log.length cap), .bool p.known, .bool p.joined, .bool p.instep, .int .u32 (p.acked : Int)] 47 (0, 0)) := ⟨_, rfl⟩
                have KQ : ∀ v, S v → ∀ i, v.cell? ⟨BQ, i, none⟩ = (#[.int .i64 p.me, .int .u32 (p.v.n : Int), .int .i64 p.v.p, .int .i64 p.v.b, .int .u32 (p.base.1 : Int), .int .u32 (p.base.2 : Int), (.slice ao p.log.length cap), .bool p.known, .bool p.joined, .bool p.instep, .int .u32 (p.acked : Int)] : Array Value)[i]? := fun v h => block_all (show v.heap[BQ]? = some (.cells #[.int .i64 p.me, .int .u32 (p.v.n : Int), .int .i64 p.v.p, .int .i64 p.v.b, .int .u32 (p.base.1 : Int), .int .u32 (p.base.2 : Int), (.slice ao p.log.length cap), .bool p.known, .bool p.joined, .bool p.instep, .int .u32 (p.acked : Int)] 47 (0, 0)) from by rw [hS] at h; exact h.2.2)
                have K2 : ∀ v, S v → ∀ i, v.cell? ⟨w.heap.size, i, none⟩ = (#[.pointer (some ⟨BQ, 0, none⟩)] : Array Value)[i]? := fun v h => block_all (show v.heap[w.heap.size]? = some (.cells #[.pointer (some ⟨BQ, 0, none⟩)] 127 (0, 0)) from by rw [hS] at h; exact h.1)
                have K3 : ∀ v, S v → ∀ i, v.cell? ⟨w.heap.size + 1, i, none⟩ = (#[.int .i64 n.kind, .int .u32 (n.view : Int), .int .u32 (n.mark.1 : Int), .int .u32 (n.mark.2 : Int), .int .u32 (n.prev.1 : Int), .int .u32 (n.prev.2 : Int), (.slice an n.bytes.length cn)] : Array Value)[i]? := fun v h => block_all (show v.heap[w.heap.size + 1]? = some (.cells #[.int .i64 n.kind, .int .u32 (n.view : Int), .int .u32 (n.mark.1 : Int), .int .u32 (n.mark.2 : Int), .int .u32 (n.prev.1 : Int), .int .u32 (n.prev.2 : Int), (.slice an n.bytes.length cn)] 30 (0, 0)) from by rw [hS] at h; exact h.2.1)
                have HS := Lib.hid hS
                have BQH := Lib.hid bQ
                have B2H := Lib.hid b2
                have B3H := Lib.hid b3
                clear hS bQ b2 b3 bE h2 h3 hE hme

                have hzb : base ≤ w3.heap.size := by have := block_lt BQH.out; omega
                refine wp_region_G 10 (S) (by kernel_rfl) fun wd hqd hHeld => ?_
                have hE : Ext w3 wd := hHeld
                have bP := hE.keeps BQH.out
                have hHeld : S wd := (by rw [HS.out]; exact ⟨hE.keeps B2H.out, hE.keeps B3H.out, bP⟩)
                refine G_take (i := 0) (u := ?ve1_0) rfl (by kernel_rfl) (by kernel_rfl) (by kernel_rfl) (fun _ _ _ h => h) rfl (by kernel_rfl) (by decide) (by rfl) (Or.inl ⟨by rfl, ?hye1_0⟩) hHeld ?_
                case hye1_0 => (intro w hSw; have kk := K2 _ hSw; go_simp; try with_reducible rfl)
                simp only [Act.put, List.setIfInBounds_toArray, List.set_cons_zero, List.set_cons_succ, List.getElem_toArray, List.getElem_cons_zero, List.getElem_cons_succ]
                refine G_take (i := 1) (u := ?ve2_1) rfl (by kernel_rfl) (by kernel_rfl) (by kernel_rfl) (fun _ _ _ h => h) rfl (by kernel_rfl) (by decide) (by rfl) (Or.inl ⟨by rfl, ?hye2_1⟩) hHeld ?_
                case hye2_1 => (intro w hSw; have kk := K2 _ hSw; go_simp; try with_reducible rfl)
                simp only [Act.put, List.setIfInBounds_toArray, List.set_cons_zero, List.set_cons_succ, List.getElem_toArray, List.getElem_cons_zero, List.getElem_cons_succ]
                refine G_pure (i := 2) (u := ?ve3_2) rfl (by kernel_rfl) (by kernel_rfl) (by kernel_rfl) (fun _ _ _ h => h) (by decide) (Or.inl ⟨by rfl, ?hye3_2⟩) hHeld ?_
                case hye3_2 => (intro w hSw; go_simp; try with_reducible rfl)
                simp only [Act.put, List.setIfInBounds_toArray, List.set_cons_zero, List.set_cons_succ, List.getElem_toArray, List.getElem_cons_zero, List.getElem_cons_succ]
                refine G_take (i := 3) (u := ?ve4_3) rfl (by kernel_rfl) (by kernel_rfl) (by kernel_rfl) (fun _ _ _ h => h) rfl (by kernel_rfl) (by decide) (by rfl) (Or.inl ⟨by rfl, ?hye4_3⟩) hHeld ?_
                case hye4_3 => (intro w hSw; have kk := KQ _ hSw; go_simp; try with_reducible rfl)
                simp only [Act.put, List.setIfInBounds_toArray, List.set_cons_zero, List.set_cons_succ, List.getElem_toArray, List.getElem_cons_zero, List.getElem_cons_succ]
                refine G_pure (i := 4) (u := ?ve5_4) rfl (by kernel_rfl) (by kernel_rfl) (by kernel_rfl) (fun _ _ _ h => h) (by decide) (Or.inl ⟨by rfl, ?hye5_4⟩) hHeld ?_
                case hye5_4 => (intro w hSw; go_simp; try with_reducible rfl)
                simp only [Act.put, List.setIfInBounds_toArray, List.set_cons_zero, List.set_cons_succ, List.getElem_toArray, List.getElem_cons_zero, List.getElem_cons_succ]
                refine G_take (i := 5) (u := ?ve6_5) rfl (by kernel_rfl) (by kernel_rfl) (by kernel_rfl) (fun _ _ _ h => h) rfl (by kernel_rfl) (by decide) (by rfl) (Or.inl ⟨by rfl, ?hye6_5⟩) hHeld ?_
                case hye6_5 => (intro w hSw; have kk := K3 _ hSw; go_simp; try with_reducible rfl)
                simp only [Act.put, List.setIfInBounds_toArray, List.set_cons_zero, List.set_cons_succ, List.getElem_toArray, List.getElem_cons_zero, List.getElem_cons_succ]
                refine G_pure (i := 6) (u := ?ve7_6) rfl (by kernel_rfl) (by kernel_rfl) (by kernel_rfl) (fun _ _ _ h => h) (by decide) (Or.inl ⟨by rfl, ?hye7_6⟩) hHeld ?_
                case hye7_6 => (intro w hSw; go_simp; try with_reducible rfl)
                simp only [Act.put, List.setIfInBounds_toArray, List.set_cons_zero, List.set_cons_succ, List.getElem_toArray, List.getElem_cons_zero, List.getElem_cons_succ]
                refine G_take (i := 7) (u := ?ve8_7) rfl (by kernel_rfl) (by kernel_rfl) (by kernel_rfl) (fun _ _ _ h => h) rfl (by kernel_rfl) (by decide) (by rfl) (Or.inl ⟨by rfl, ?hye8_7⟩) hHeld ?_
                case hye8_7 => (intro w hSw; have kk := K3 _ hSw; go_simp; try with_reducible rfl)
                simp only [Act.put, List.setIfInBounds_toArray, List.set_cons_zero, List.set_cons_succ, List.getElem_toArray, List.getElem_cons_zero, List.getElem_cons_succ]
                refine G_all (rs := [8]) (by kernel_rfl) (by simp) ?_
                intro i hi; obtain rfl : i = 8 := by simpa using hi
                refine wpOp_run rfl (by rfl) ?_
                go_simp
                refine Calls.mono (bkKept _ W0 base (HX0.out.trans hE) h0 (Nat.le_trans hzb hE.size) _ _ p us (HIL.out.ext hE) n.mark n.bytes (IsB.of_owns (ownsRow_ext HB.out hE)) (by omega) (by omega)) ?_
                rintro e w5 ⟨⟨v5, u5, rfl, il5, x5⟩, g5⟩
                have kp5 := Keeps2.own (B := BQ) (HIL.out.ext hE).own g5
                have bQ5 := grown_keep g5 bP (own_neT (HIL.out.ext hE).own bP (by decide))
                have hS5 : S w5 := (by rw [HS.out]; exact ⟨kp5 _ _ _ (by omega) (by decide) (hE.keeps B2H.out), kp5 _ _ _ (by omega) (by decide) (hE.keeps B3H.out), bQ5⟩)
                have b7 := own_thru (ownsRow_ext HB.out hE) (HIL.out.ext hE).own (by decide) g5
                rw [HKe.out] at il5 ⊢
                obtain ⟨a5, k5, rfl⟩ := il5.shape
                have hHeld := hS5
                first | refine ⟨fun _ => hHeld, ?_⟩ | refine ⟨hHeld, ?_⟩
                try simp only [Act.put, List.setIfInBounds_toArray, List.set_cons_zero, List.set_cons_succ, List.getElem_toArray, List.getElem_cons_zero, List.getElem_cons_succ]
                obtain ⟨wd, rfl⟩ : ∃ x, x = w5 := ⟨_, rfl⟩
                refine G_pure (i := 9) (u := ?ve9_9) rfl (by kernel_rfl) (by kernel_rfl) (by kernel_rfl) (fun _ _ _ h => h) (by decide) (Or.inl ⟨by rfl, ?hye9_9⟩) hHeld ?_
                case hye9_9 => (intro w hSw; go_simp; try with_reducible rfl)
                simp only [Act.put, List.setIfInBounds_toArray, List.set_cons_zero, List.set_cons_succ, List.getElem_toArray, List.getElem_cons_zero, List.getElem_cons_succ]
                refine G_all (rs := [10]) (by kernel_rfl) (by simp) ?_
                intro i hi; obtain rfl : i = 10 := by simpa using hi
                refine wpOp_run rfl (by rfl) ?_
                refine wp_store_row 47 (.tmp 106) (.tmp 105) rfl BQ #[.int .i64 K.me, .int .u32 (K.v.n : Int), .int .i64 K.v.p, .int .i64 K.v.b, .int .u32 (K.base.1 : Int), .int .u32 (K.base.2 : Int), (.slice a5 K.log.length k5), .bool K.known, .bool K.joined, .bool K.instep, .int .u32 (K.acked : Int)] (by rfl) (by rfl) 47 _ bQ5 (by kernel_rfl) rfl (pr_one _ _ _ _) ?_
                try refine ⟨fun e => absurd e (by decide), ?_⟩
                refine G_free _ _ _ _ (by kernel_rfl) ?_
                try simp only [Act.put, List.setIfInBounds_toArray, List.set_cons_zero, List.set_cons_succ, List.getElem_toArray, List.getElem_cons_zero, List.getElem_cons_succ]
                refine wpAny_done (by kernel_rfl) ?_ _
                refine NoPanic.normal ?_
                skip
                have h6 := setRow_heap wd BQ _ #[.int .i64 K.me, .int .u32 (K.v.n : Int), .int .i64 K.v.p, .int .i64 K.v.b, .int .u32 (K.base.1 : Int), .int .u32 (K.base.2 : Int), (.slice a5 K.log.length k5), .bool K.known, .bool K.joined, .bool K.instep, .int .u32 (K.acked : Int)] _ _ bQ5
                have gr := grown_setRow (w := wd) (g := BQ) (c := #[.int .i64 K.me, .int .u32 (K.v.n : Int), .int .i64 K.v.p, .int .i64 K.v.b, .int .u32 (K.base.1 : Int), .int .u32 (K.base.2 : Int), (.slice a5 K.log.length k5), .bool K.known, .bool K.joined, .bool K.instep, .int .u32 (K.acked : Int)])
                have il6 := il5.grown gr bQ5 (by decide) (by decide)
                have b7 := ownsRow_grown b7 gr (own_neT b7 bQ5 (by decide))
                have X6 := x5.grown gr (fun k hk => by cases hk; omega)
                have G : Keeps2 w _ BQ := ((Keeps2.ext (HX.out.trans hE)).trans kp5).trans (Keeps2.grown gr)
                rw [HS.out] at hS5
                have b2 := grown_other gr hS5.1 (by omega)
                have b3 := grown_other gr hS5.2.1 (by omega)
                generalize wd.setRow BQ #[.int .i64 K.me, .int .u32 (K.v.n : Int), .int .i64 K.v.p, .int .i64 K.v.b, .int .u32 (K.base.1 : Int), .int .u32 (K.base.2 : Int), (.slice a5 K.log.length k5), .bool K.known, .bool K.joined, .bool K.instep, .int .u32 (K.acked : Int)] = w5 at *
                clear gr hS5 hHeld bQ5 kp5 il5 x5 g5 K2 K3 KQ hE bP
                have h2 := block_all b2
                have hq := block_all h6
                have ff := fun i => block_free h6 i
                go_upto_region 15 with fail
                have gr := grown_setCell w5 BQ 8 (.bool true)
                have bQ : (w5.setCell ⟨BQ, 8, none⟩ (.bool true)).heap[BQ]? = some (.cells #[.int .i64 (joinP K).me, .int .u32 ((joinP K).v.n : Int), .int .i64 (joinP K).v.p, .int .i64 (joinP K).v.b, .int .u32 ((joinP K).base.1 : Int), .int .u32 ((joinP K).base.2 : Int), (.slice a5 K.log.length k5), .bool (joinP K).known, .bool (joinP K).joined, .bool (joinP K).instep, .int .u32 ((joinP K).acked : Int)] 47 (0, 0)) := by
                  have := block_setCell h6 (i := 8) (.bool true)
                  simpa [joinP] using this
                have LJ := Lib.hid (show LgFr (w5.setCell ⟨BQ, 8, none⟩ (.bool true)) base (.slice a5 K.log.length k5) (joinP K).log u5 from il6.grown gr h6 (by decide) (by decide))
                have b7 := ownsRow_grown b7 gr (own_neT b7 h6 (by decide))
                have X6 := Lib.hid (X6.grown gr (fun k hk => by cases hk; omega))
                have G := G.trans (Keeps2.grown gr)
                have b2 := grown_other gr b2 (by omega)
                have b3 := grown_other gr b3 (by omega)
                generalize w5.setCell ⟨BQ, 8, none⟩ (.bool true) = w6 at *
                clear gr h6 il6 h2 hq ff
                have KQ := fun v (h : Ext w6 v) => block_all (h.keeps bQ)
                have K2 := fun v (h : Ext w6 v) => block_all (h.keeps b2)
                have K3 := fun v (h : Ext w6 v) => block_all (h.keeps b3)
                have hbz : base ≤ w6.heap.size := by have := block_lt bQ; omega
                have BQH := Lib.hid bQ
                have B2H := Lib.hid b2
                have B3H := Lib.hid b3
                clear bQ b2 b3
                refine wp_region_G 9 (fun v => Ext w6 v) (by kernel_rfl) fun wd hqd hHeld => ?_
                refine G_pure (i := 0) (u := ?vf1_0) rfl (by kernel_rfl) (by kernel_rfl) (by kernel_rfl) (fun _ _ _ h => h) (by decide) (Or.inl ⟨by rfl, ?hyf1_0⟩) hHeld ?_
                case hyf1_0 => (intro w hSw; go_simp; try with_reducible rfl)
                simp only [Act.put, List.setIfInBounds_toArray, List.set_cons_zero, List.set_cons_succ, List.getElem_toArray, List.getElem_cons_zero, List.getElem_cons_succ]
                refine G_pure (i := 1) (u := ?vf2_1) rfl (by kernel_rfl) (by kernel_rfl) (by kernel_rfl) (fun _ _ _ h => h) (by decide) (Or.inl ⟨by rfl, ?hyf2_1⟩) hHeld ?_
                case hyf2_1 => (intro w hSw; go_simp; try with_reducible rfl)
                simp only [Act.put, List.setIfInBounds_toArray, List.set_cons_zero, List.set_cons_succ, List.getElem_toArray, List.getElem_cons_zero, List.getElem_cons_succ]
                refine G_take (i := 2) (u := ?vf3_2) rfl (by kernel_rfl) (by kernel_rfl) (by kernel_rfl) (fun _ _ _ h => h) rfl (by kernel_rfl) (by decide) (by rfl) (Or.inl ⟨by rfl, ?hyf3_2⟩) hHeld ?_
                case hyf3_2 => (intro w hSw; go_simp; try with_reducible rfl)
                simp only [Act.put, List.setIfInBounds_toArray, List.set_cons_zero, List.set_cons_succ, List.getElem_toArray, List.getElem_cons_zero, List.getElem_cons_succ]
                refine G_pure (i := 4) (u := ?vf4_4) rfl (by kernel_rfl) (by kernel_rfl) (by kernel_rfl) (fun _ _ _ h => h) (by decide) (Or.inl ⟨by rfl, ?hyf4_4⟩) hHeld ?_
                case hyf4_4 => (intro w hSw; go_simp; try with_reducible rfl)
                simp only [Act.put, List.setIfInBounds_toArray, List.set_cons_zero, List.set_cons_succ, List.getElem_toArray, List.getElem_cons_zero, List.getElem_cons_succ]
                refine G_take (i := 5) (u := ?vf5_5) rfl (by kernel_rfl) (by kernel_rfl) (by kernel_rfl) (fun _ _ _ h => h) rfl (by kernel_rfl) (by decide) (by rfl) (Or.inl ⟨by rfl, ?hyf5_5⟩) hHeld ?_
                case hyf5_5 => (intro w hSw; go_simp; try with_reducible rfl)
                simp only [Act.put, List.setIfInBounds_toArray, List.set_cons_zero, List.set_cons_succ, List.getElem_toArray, List.getElem_cons_zero, List.getElem_cons_succ]
                refine G_pure (i := 6) (u := ?vf6_6) rfl (by kernel_rfl) (by kernel_rfl) (by kernel_rfl) (fun _ _ _ h => h) (by decide) (Or.inl ⟨by rfl, ?hyf6_6⟩) hHeld ?_
                case hyf6_6 => (intro w hSw; go_simp; try with_reducible rfl)
                simp only [Act.put, List.setIfInBounds_toArray, List.set_cons_zero, List.set_cons_succ, List.getElem_toArray, List.getElem_cons_zero, List.getElem_cons_succ]
                refine G_all (rs := [3, 7]) (by kernel_rfl) (by simp) ?_
                intro i hi; have hi' : i = 3 ∨ i = 7 := by simpa using hi
                clear hi; rcases hi' with rfl | rfl
                · refine wpOp_run rfl (by rfl) ?_
                  go_simp
                  refine Calls.mono (bkAck _ _ (joinP K) n.mark w.heap.size BQ _ (hHeld.keeps B2H.out) (hHeld.keeps BQH.out) HJ.out hn.mark (hK.ext (X6.out.trans hHeld))) ?_
                  rintro e w7 ⟨v7, u7, rfl, il7, x7⟩
                  have il7 := il7.base (Nat.le_trans hbz hHeld.size)
                  have hHeld := hHeld.trans x7
                  first | refine ⟨fun _ => hHeld, ?_⟩ | refine ⟨hHeld, ?_⟩
                  try simp only [Act.put, List.setIfInBounds_toArray, List.set_cons_zero, List.set_cons_succ, List.getElem_toArray, List.getElem_cons_zero, List.getElem_cons_succ]
                  try have iw := iw.ext x7
                  try have il7 := il7.ext x7
                  skip
                  obtain ⟨wd, rfl⟩ : ∃ x, x = w7 := ⟨_, rfl⟩
                  refine G_pure (i := 8) (u := ?vf7_8) rfl (by kernel_rfl) (by kernel_rfl) (by kernel_rfl) (fun _ _ _ h => h) (by decide) (Or.inl ⟨by rfl, ?hyf7_8⟩) hHeld ?_
                  case hyf7_8 => (intro w hSw; go_simp; try with_reducible rfl)
                  simp only [Act.put, List.setIfInBounds_toArray, List.set_cons_zero, List.set_cons_succ, List.getElem_toArray, List.getElem_cons_zero, List.getElem_cons_succ]
                  refine G_all (rs := [7]) (by kernel_rfl) (by simp) ?_
                  intro i hi; obtain rfl : i = 7 := by simpa using hi
                  refine wpOp_run rfl (by rfl) ?_
                  refine wp_buildOne 89 (.tmp 116) rfl (wkV ⟨false, n.bytes⟩ (an, cn)) (by rfl) (build_one _ 89 93 2 Tryd.underlying89 infoWk2 (by omega) (by omega) _ rfl) ?_
                  have xb : Ext wd (wd.alloc (.cells (wkV ⟨false, n.bytes⟩ (an, cn)).toArray 93)) := (Ext.refl wd).alloc _
                  have iw := wk_one (base := base) (e := ⟨false, n.bytes⟩) (u := (an, cn)) (Nat.le_trans hbz hHeld.size) (ownsRow_ext b7 hHeld)
                  have hHeld := hHeld.trans xb
                  try have il7 := il7.ext xb
                  clear xb
                  generalize wd.heap.size = BW at *
                  generalize wd.alloc (.cells (wkV ⟨false, n.bytes⟩ (an, cn)).toArray 93) = wn at *
                  obtain ⟨wd, rfl⟩ : ∃ x, x = wn := ⟨_, rfl⟩
                  first | refine ⟨fun _ => hHeld, ?_⟩ | refine ⟨hHeld, ?_⟩
                  try simp only [Act.put, List.setIfInBounds_toArray, List.set_cons_zero, List.set_cons_succ, List.getElem_toArray, List.getElem_cons_zero, List.getElem_cons_succ]
                  refine G_all (rs := [9]) (by kernel_rfl) (by simp) ?_
                  intro i hi; obtain rfl : i = 9 := by simpa using hi
                  refine wpOp_run rfl (by rfl) ?_
                  go_simp
                  try refine ⟨fun e => absurd e (by decide), ?_⟩
                  refine G_free _ _ _ _ (by kernel_rfl) ?_
                  try simp only [Act.put, List.setIfInBounds_toArray, List.set_cons_zero, List.set_cons_succ, List.getElem_toArray, List.getElem_cons_zero, List.getElem_cons_succ]
                  refine wpAny_done (by kernel_rfl) ?_ _
                  refine NoPanic.normal ?_
                  go_wp2_with fail
                  go_ret2
                  exact ⟨_, u5, _, _, _, _, rfl, hHeld.keeps BQH.out, LJ.out.ext hHeld, il7, iw, X6.out.trans hHeld, G.trans (Keeps2.ext hHeld)⟩
                · refine wpOp_run rfl (by rfl) ?_
                  refine wp_buildOne 89 (.tmp 116) rfl (wkV ⟨false, n.bytes⟩ (an, cn)) (by rfl) (build_one _ 89 93 2 Tryd.underlying89 infoWk2 (by omega) (by omega) _ rfl) ?_
                  have xb : Ext wd (wd.alloc (.cells (wkV ⟨false, n.bytes⟩ (an, cn)).toArray 93)) := (Ext.refl wd).alloc _
                  have iw := wk_one (base := base) (e := ⟨false, n.bytes⟩) (u := (an, cn)) (Nat.le_trans hbz hHeld.size) (ownsRow_ext b7 hHeld)
                  have hHeld := hHeld.trans xb
                  try have il7 := il7.ext xb
                  clear xb
                  generalize wd.heap.size = BW at *
                  generalize wd.alloc (.cells (wkV ⟨false, n.bytes⟩ (an, cn)).toArray 93) = wn at *
                  obtain ⟨wd, rfl⟩ : ∃ x, x = wn := ⟨_, rfl⟩
                  first | refine ⟨fun _ => hHeld, ?_⟩ | refine ⟨hHeld, ?_⟩
                  try simp only [Act.put, List.setIfInBounds_toArray, List.set_cons_zero, List.set_cons_succ, List.getElem_toArray, List.getElem_cons_zero, List.getElem_cons_succ]
                  refine G_all (rs := [3]) (by kernel_rfl) (by simp) ?_
                  intro i hi; obtain rfl : i = 3 := by simpa using hi
                  refine wpOp_run rfl (by rfl) ?_
                  go_simp
                  refine Calls.mono (bkAck _ _ (joinP K) n.mark w.heap.size BQ _ (hHeld.keeps B2H.out) (hHeld.keeps BQH.out) HJ.out hn.mark (hK.ext (X6.out.trans hHeld))) ?_
                  rintro e w7 ⟨v7, u7, rfl, il7, x7⟩
                  have il7 := il7.base (Nat.le_trans hbz hHeld.size)
                  have hHeld := hHeld.trans x7
                  first | refine ⟨fun _ => hHeld, ?_⟩ | refine ⟨hHeld, ?_⟩
                  try simp only [Act.put, List.setIfInBounds_toArray, List.set_cons_zero, List.set_cons_succ, List.getElem_toArray, List.getElem_cons_zero, List.getElem_cons_succ]
                  try have iw := iw.ext x7
                  try have il7 := il7.ext x7
                  skip
                  obtain ⟨wd, rfl⟩ : ∃ x, x = w7 := ⟨_, rfl⟩
                  refine G_pure (i := 8) (u := ?vf8_8) rfl (by kernel_rfl) (by kernel_rfl) (by kernel_rfl) (fun _ _ _ h => h) (by decide) (Or.inl ⟨by rfl, ?hyf8_8⟩) hHeld ?_
                  case hyf8_8 => (intro w hSw; go_simp; try with_reducible rfl)
                  simp only [Act.put, List.setIfInBounds_toArray, List.set_cons_zero, List.set_cons_succ, List.getElem_toArray, List.getElem_cons_zero, List.getElem_cons_succ]
                  refine G_all (rs := [9]) (by kernel_rfl) (by simp) ?_
                  intro i hi; obtain rfl : i = 9 := by simpa using hi
                  refine wpOp_run rfl (by rfl) ?_
                  go_simp
                  try refine ⟨fun e => absurd e (by decide), ?_⟩
                  refine G_free _ _ _ _ (by kernel_rfl) ?_
                  try simp only [Act.put, List.setIfInBounds_toArray, List.set_cons_zero, List.set_cons_succ, List.getElem_toArray, List.getElem_cons_zero, List.getElem_cons_succ]
                  refine wpAny_done (by kernel_rfl) ?_ _
                  refine NoPanic.normal ?_
                  go_wp2_with fail
                  go_ret2
                  exact ⟨_, u5, _, _, _, _, rfl, hHeld.keeps BQH.out, LJ.out.ext hHeld, il7, iw, X6.out.trans hHeld, G.trans (Keeps2.ext hHeld)⟩

        · by_cases k4 : n.kind = 4
          · have t2 : (n.kind == 2) = false := by rw [beq_eq_false_iff_ne]; exact k2
            have t3 : (n.kind == 3) = false := by rw [beq_eq_false_iff_ne]; exact k3
            have t4 : (n.kind == 4) = true := by rw [beq_iff_eq]; exact k4
            have hP : P1 = if wholeN p n = true then wholeP p n.mark else p := by rw [← HP1.out]; unfold folP; rw [if_neg k2, if_neg k3, if_pos k4]
            have hL : L1 = if wholeN p n = true then ackL p n.mark else if p.joined = true then ackL p E else [] := by rw [← HL1.out]; unfold folL; rw [if_neg k3, if_pos k4, HE.out]
            have hW : W1 = if wholeN p n = true then [⟨true, n.bytes⟩] else [] := by rw [← HW1.out]; unfold folW; rw [if_neg k3, if_pos k4]
            clear k2 k3 k4
            obtain ⟨WN, hWN⟩ : ∃ WN, wholeN p n = WN := ⟨_, rfl⟩
            rw [hWN] at hP hL hW
            have HWN := Lib.hid (show (R && (!p.joined || decide (E.2 < n.mark.2))) = WN by rw [← hWN, ← HRo.out, ← HE.out]; rfl)
            clear hWN
            have hq := block_all bQ
            go_upto_region 17 with fail
            go_cut [8, 12, 120] from 121 to 136 (fun t8 t12 t120 wx => t120 = .bool WN ∧ Ext w3 wx)
            case first =>
              clear hme
              go_wp2_with fail
              all_goals
                go_meet
                refine ⟨congrArg Value.bool ?_, Ext.refl _⟩
                rw [← HWN.out]
                simp [*]
            case rest =>
              obtain ⟨rfl, y⟩ := hcut
              obtain ⟨w4, rfl⟩ : ∃ v, v = wc := ⟨_, rfl⟩
              have bQ := y.keeps bQ
              have b2 := y.keeps b2
              have b3 := y.keeps b3
              have bE := y.keeps bE
              have HIL := Lib.hid (HIL.out.ext y)
              have HB := Lib.hid (ownsRow_ext HB.out y)
              have HX := Lib.hid (HX.out.trans y)
              have HX0 := Lib.hid (HX0.out.trans y)
              clear y h2 h3 hq hE
              have h2 := block_all b2
              have h3 := block_all b3
              have hq := block_all bQ
              have hE := block_all bE
              obtain ⟨w3, rfl⟩ : ∃ v, v = w4 := ⟨_, rfl⟩
              cases hWN : WN with
              | false =>
                subst hWN
                rw [if_neg (by decide)] at hP hL hW
                subst hP
                subst hW
                cases hj : P1.joined with
                | true =>
                  rw [hj, if_pos rfl] at hL
                  subst hL
                  go_wp2_with fail
                  refine (bkAck _ _ P1 E w.heap.size BQ _ b2 bQ hp heok (hK.ext HX0.out)).mono ?_
                  rintro e w7 ⟨v7, u7, rfl, il7, x7⟩
                  have bQ := x7.keeps bQ
                  have il7 := il7.base (show base ≤ w3.heap.size by have := block_lt b3; omega)
                  go_wp2_with fail
                  go_ret2
                  exact ⟨_, us, _, _, _, _, rfl, bQ, (HIL.out.ext x7).fr, il7, WkOwn.nil _ _, HX0.out.trans x7, Keeps2.ext (HX.out.trans x7)⟩
                | false =>
                  rw [hj, if_neg (by decide)] at hL
                  subst hL
                  go_wp2_with fail
                  go_ret2
                  exact ⟨_, us, _, _, _, _, rfl, bQ, HIL.out.fr, LtOwn.nil _ _, WkOwn.nil _ _, HX0.out, Keeps2.ext HX.out⟩
              | true =>
                subst hWN
                rw [if_pos rfl] at hP hL hW
                have HJ := Lib.hid (show PrOk (wholeP p n.mark) from ⟨hp.me, hp.vn, hp.vp, hp.vb, hn.mark, hp.acked⟩)
                have hLa : ackL p n.mark = [⟨otherI (wholeP p n.mark), encN ⟨5, (wholeP p n.mark).v.n, n.mark, m0, []⟩⟩] := rfl
                rw [hLa] at hL
                subst hP
                subst hL
                subst hW
                clear hLa hq
                go_upto_region 18 with fail
                obtain ⟨S, hS⟩ : ∃ S : World → Prop, S = fun v => v.heap[w.heap.size]? = some (.cells #[.pointer (some ⟨BQ, 0, none⟩)] 127 (0, 0)) ∧ v.heap[w.heap.size + 1]? = some (.cells #[.int .i64 n.kind, .int .u32 (n.view : Int), .int .u32 (n.mark.1 : Int), .int .u32 (n.mark.2 : Int), .int .u32 (n.prev.1 : Int), .int .u32 (n.prev.2 : Int), (.slice an n.bytes.length cn)] 30 (0, 0)) := ⟨_, rfl⟩
                have K2 : ∀ v, S v → ∀ i, v.cell? ⟨w.heap.size, i, none⟩ = (#[.pointer (some ⟨BQ, 0, none⟩)] : Array Value)[i]? := fun v h => block_all (show v.heap[w.heap.size]? = some (.cells #[.pointer (some ⟨BQ, 0, none⟩)] 127 (0, 0)) from by rw [hS] at h; exact h.1)
                have K3 : ∀ v, S v → ∀ i, v.cell? ⟨w.heap.size + 1, i, none⟩ = (#[.int .i64 n.kind, .int .u32 (n.view : Int), .int .u32 (n.mark.1 : Int), .int .u32 (n.mark.2 : Int), .int .u32 (n.prev.1 : Int), .int .u32 (n.prev.2 : Int), (.slice an n.bytes.length cn)] : Array Value)[i]? := fun v h => block_all (show v.heap[w.heap.size + 1]? = some (.cells #[.int .i64 n.kind, .int .u32 (n.view : Int), .int .u32 (n.mark.1 : Int), .int .u32 (n.mark.2 : Int), .int .u32 (n.prev.1 : Int), .int .u32 (n.prev.2 : Int), (.slice an n.bytes.length cn)] 30 (0, 0)) from by rw [hS] at h; exact h.2)
                have HS := Lib.hid hS
                have BQH := Lib.hid bQ
                have B2H := Lib.hid b2
                have B3H := Lib.hid b3
                clear hS bQ b2 b3 bE h2 h3 hE hme

                refine wp_region_G 17 (S) (by kernel_rfl) fun wd hqd hHeld => ?_
                have hE : Ext w3 wd := hHeld
                have bP := hE.keeps BQH.out
                have hHeld : S wd := (by rw [HS.out]; exact ⟨hE.keeps B2H.out, hE.keeps B3H.out⟩)
                have X6 := Lib.hid (HX0.out.trans hE)
                have b7 := ownsRow_ext HB.out hE
                have bO := bP
                have G : Keeps2 w wd BQ := Keeps2.ext (HX.out.trans hE)
                refine G_take (i := 0) (u := ?vg1_0) rfl (by kernel_rfl) (by kernel_rfl) (by kernel_rfl) (fun _ _ _ h => h) rfl (by kernel_rfl) (by decide) (by rfl) (Or.inl ⟨by rfl, ?hyg1_0⟩) hHeld ?_
                case hyg1_0 => (intro w hSw; have kk := K2 _ hSw; go_simp; try with_reducible rfl)
                simp only [Act.put, List.setIfInBounds_toArray, List.set_cons_zero, List.set_cons_succ, List.getElem_toArray, List.getElem_cons_zero, List.getElem_cons_succ]
                refine G_take (i := 1) (u := ?vg2_1) rfl (by kernel_rfl) (by kernel_rfl) (by kernel_rfl) (fun _ _ _ h => h) rfl (by kernel_rfl) (by decide) (by rfl) (Or.inl ⟨by rfl, ?hyg2_1⟩) hHeld ?_
                case hyg2_1 => (intro w hSw; have kk := K2 _ hSw; go_simp; try with_reducible rfl)
                simp only [Act.put, List.setIfInBounds_toArray, List.set_cons_zero, List.set_cons_succ, List.getElem_toArray, List.getElem_cons_zero, List.getElem_cons_succ]
                refine G_take (i := 2) (u := ?vg3_2) rfl (by kernel_rfl) (by kernel_rfl) (by kernel_rfl) (fun _ _ _ h => h) rfl (by kernel_rfl) (by decide) (by rfl) (Or.inl ⟨by rfl, ?hyg3_2⟩) hHeld ?_
                case hyg3_2 => (intro w hSw; have kk := K2 _ hSw; go_simp; try with_reducible rfl)
                simp only [Act.put, List.setIfInBounds_toArray, List.set_cons_zero, List.set_cons_succ, List.getElem_toArray, List.getElem_cons_zero, List.getElem_cons_succ]
                refine G_take (i := 3) (u := ?vg4_3) rfl (by kernel_rfl) (by kernel_rfl) (by kernel_rfl) (fun _ _ _ h => h) rfl (by kernel_rfl) (by decide) (by rfl) (Or.inl ⟨by rfl, ?hyg4_3⟩) hHeld ?_
                case hyg4_3 => (intro w hSw; have kk := K2 _ hSw; go_simp; try with_reducible rfl)
                simp only [Act.put, List.setIfInBounds_toArray, List.set_cons_zero, List.set_cons_succ, List.getElem_toArray, List.getElem_cons_zero, List.getElem_cons_succ]
                refine G_pure (i := 4) (u := ?vg5_4) rfl (by kernel_rfl) (by kernel_rfl) (by kernel_rfl) (fun _ _ _ h => h) (by decide) (Or.inl ⟨by rfl, ?hyg5_4⟩) hHeld ?_
                case hyg5_4 => (intro w hSw; go_simp; try with_reducible rfl)
                simp only [Act.put, List.setIfInBounds_toArray, List.set_cons_zero, List.set_cons_succ, List.getElem_toArray, List.getElem_cons_zero, List.getElem_cons_succ]
                refine G_take (i := 5) (u := ?vg6_5) rfl (by kernel_rfl) (by kernel_rfl) (by kernel_rfl) (fun _ _ _ h => h) rfl (by kernel_rfl) (by decide) (by rfl) (Or.inl ⟨by rfl, ?hyg6_5⟩) hHeld ?_
                case hyg6_5 => (intro w hSw; have kk := K3 _ hSw; go_simp; try with_reducible rfl)
                simp only [Act.put, List.setIfInBounds_toArray, List.set_cons_zero, List.set_cons_succ, List.getElem_toArray, List.getElem_cons_zero, List.getElem_cons_succ]
                refine G_pure (i := 6) (u := ?vg7_6) rfl (by kernel_rfl) (by kernel_rfl) (by kernel_rfl) (fun _ _ _ h => h) (by decide) (Or.inl ⟨by rfl, ?hyg7_6⟩) hHeld ?_
                case hyg7_6 => (intro w hSw; go_simp; try with_reducible rfl)
                simp only [Act.put, List.setIfInBounds_toArray, List.set_cons_zero, List.set_cons_succ, List.getElem_toArray, List.getElem_cons_zero, List.getElem_cons_succ]
                refine G_pure (i := 7) (u := ?vg8_7) rfl (by kernel_rfl) (by kernel_rfl) (by kernel_rfl) (fun _ _ _ h => h) (by decide) (Or.inl ⟨by rfl, ?hyg8_7⟩) hHeld ?_
                case hyg8_7 => (intro w hSw; go_simp; try with_reducible rfl)
                simp only [Act.put, List.setIfInBounds_toArray, List.set_cons_zero, List.set_cons_succ, List.getElem_toArray, List.getElem_cons_zero, List.getElem_cons_succ]
                refine G_all (rs := [8]) (by kernel_rfl) (by simp) ?_
                intro i hi; obtain rfl : i = 8 := by simpa using hi
                refine wpOp_run rfl (by rfl) ?_
                have kk := block_all bP
                have ff := fun i => block_free bP i
                go_simp
                have bP := block_setCell (block_setCell bP (i := 4) (.int .u32 (n.mark.1 : Int))) (i := 5) (.int .u32 (n.mark.2 : Int))
                have gr := grown_trans (grown_setCell wd BQ 4 (.int .u32 (n.mark.1 : Int))) (grown_setCell _ BQ 5 (.int .u32 (n.mark.2 : Int)))
                clear kk ff
                generalize (wd.setCell ⟨BQ, 4, none⟩ (.int .u32 (n.mark.1 : Int))).setCell ⟨BQ, 5, none⟩ (.int .u32 (n.mark.2 : Int)) = wn at *
                have hHeld : S wn := (by have h := hHeld; rw [HS.out] at h ⊢; exact ⟨grown_other gr h.1 (by omega), grown_other gr h.2 (by omega)⟩)
                have G := G.trans (Keeps2.grown gr)
                have X6 := Lib.hid (X6.out.grown gr (fun k hk => by cases hk; omega))
                have b7 := ownsRow_grown b7 gr (own_neT b7 bO (by decide))
                have bO := bP
                clear gr
                obtain ⟨wd, rfl⟩ : ∃ x, x = wn := ⟨_, rfl⟩
                first | refine ⟨fun _ => hHeld, ?_⟩ | refine ⟨hHeld, ?_⟩
                try simp only [Act.put, List.setIfInBounds_toArray, List.set_cons_zero, List.set_cons_succ, List.getElem_toArray, List.getElem_cons_zero, List.getElem_cons_succ]
                refine G_pure (i := 9) (u := ?vg9_9) rfl (by kernel_rfl) (by kernel_rfl) (by kernel_rfl) (fun _ _ _ h => h) (by decide) (Or.inl ⟨by rfl, ?hyg9_9⟩) hHeld ?_
                case hyg9_9 => (intro w hSw; go_simp; try with_reducible rfl)
                simp only [Act.put, List.setIfInBounds_toArray, List.set_cons_zero, List.set_cons_succ, List.getElem_toArray, List.getElem_cons_zero, List.getElem_cons_succ]
                refine G_pure (i := 10) (u := ?vg10_10) rfl (by kernel_rfl) (by kernel_rfl) (by kernel_rfl) (fun _ _ _ h => h) (by decide) (Or.inl ⟨by rfl, ?hyg10_10⟩) hHeld ?_
                case hyg10_10 => (intro w hSw; go_simp; try with_reducible rfl)
                simp only [Act.put, List.setIfInBounds_toArray, List.set_cons_zero, List.set_cons_succ, List.getElem_toArray, List.getElem_cons_zero, List.getElem_cons_succ]
                refine G_all (rs := [11]) (by kernel_rfl) (by simp) ?_
                intro i hi; obtain rfl : i = 11 := by simpa using hi
                refine wpOp_run rfl (by rfl) ?_
                have kk := block_all bP
                have ff := fun i => block_free bP i
                go_simp
                have bP := block_setCell bP (i := 6) (.slice none 0 0)
                have gr := grown_setCell wd BQ 6 (.slice none 0 0)
                clear kk ff
                generalize wd.setCell ⟨BQ, 6, none⟩ (.slice none 0 0) = wn at *
                have hHeld : S wn := (by have h := hHeld; rw [HS.out] at h ⊢; exact ⟨grown_other gr h.1 (by omega), grown_other gr h.2 (by omega)⟩)
                have G := G.trans (Keeps2.grown gr)
                have X6 := Lib.hid (X6.out.grown gr (fun k hk => by cases hk; omega))
                have b7 := ownsRow_grown b7 gr (own_neT b7 bO (by decide))
                have bO := bP
                clear gr
                obtain ⟨wd, rfl⟩ : ∃ x, x = wn := ⟨_, rfl⟩
                first | refine ⟨fun _ => hHeld, ?_⟩ | refine ⟨hHeld, ?_⟩
                try simp only [Act.put, List.setIfInBounds_toArray, List.set_cons_zero, List.set_cons_succ, List.getElem_toArray, List.getElem_cons_zero, List.getElem_cons_succ]
                refine G_pure (i := 12) (u := ?vg11_12) rfl (by kernel_rfl) (by kernel_rfl) (by kernel_rfl) (fun _ _ _ h => h) (by decide) (Or.inl ⟨by rfl, ?hyg11_12⟩) hHeld ?_
                case hyg11_12 => (intro w hSw; go_simp; try with_reducible rfl)
                simp only [Act.put, List.setIfInBounds_toArray, List.set_cons_zero, List.set_cons_succ, List.getElem_toArray, List.getElem_cons_zero, List.getElem_cons_succ]
                refine G_pure (i := 13) (u := ?vg12_13) rfl (by kernel_rfl) (by kernel_rfl) (by kernel_rfl) (fun _ _ _ h => h) (by decide) (Or.inl ⟨by rfl, ?hyg12_13⟩) hHeld ?_
                case hyg12_13 => (intro w hSw; go_simp; try with_reducible rfl)
                simp only [Act.put, List.setIfInBounds_toArray, List.set_cons_zero, List.set_cons_succ, List.getElem_toArray, List.getElem_cons_zero, List.getElem_cons_succ]
                refine G_all (rs := [14]) (by kernel_rfl) (by simp) ?_
                intro i hi; obtain rfl : i = 14 := by simpa using hi
                refine wpOp_run rfl (by rfl) ?_
                have kk := block_all bP
                have ff := fun i => block_free bP i
                go_simp
                have bP := block_setCell bP (i := 8) (.bool true)
                have gr := grown_setCell wd BQ 8 (.bool true)
                clear kk ff
                generalize wd.setCell ⟨BQ, 8, none⟩ (.bool true) = wn at *
                have hHeld : S wn := (by have h := hHeld; rw [HS.out] at h ⊢; exact ⟨grown_other gr h.1 (by omega), grown_other gr h.2 (by omega)⟩)
                have G := G.trans (Keeps2.grown gr)
                have X6 := Lib.hid (X6.out.grown gr (fun k hk => by cases hk; omega))
                have b7 := ownsRow_grown b7 gr (own_neT b7 bO (by decide))
                have bO := bP
                clear gr
                obtain ⟨wd, rfl⟩ : ∃ x, x = wn := ⟨_, rfl⟩
                first | refine ⟨fun _ => hHeld, ?_⟩ | refine ⟨hHeld, ?_⟩
                try simp only [Act.put, List.setIfInBounds_toArray, List.set_cons_zero, List.set_cons_succ, List.getElem_toArray, List.getElem_cons_zero, List.getElem_cons_succ]
                refine G_pure (i := 15) (u := ?vg13_15) rfl (by kernel_rfl) (by kernel_rfl) (by kernel_rfl) (fun _ _ _ h => h) (by decide) (Or.inl ⟨by rfl, ?hyg13_15⟩) hHeld ?_
                case hyg13_15 => (intro w hSw; go_simp; try with_reducible rfl)
                simp only [Act.put, List.setIfInBounds_toArray, List.set_cons_zero, List.set_cons_succ, List.getElem_toArray, List.getElem_cons_zero, List.getElem_cons_succ]
                refine G_pure (i := 16) (u := ?vg14_16) rfl (by kernel_rfl) (by kernel_rfl) (by kernel_rfl) (fun _ _ _ h => h) (by decide) (Or.inl ⟨by rfl, ?hyg14_16⟩) hHeld ?_
                case hyg14_16 => (intro w hSw; go_simp; try with_reducible rfl)
                simp only [Act.put, List.setIfInBounds_toArray, List.set_cons_zero, List.set_cons_succ, List.getElem_toArray, List.getElem_cons_zero, List.getElem_cons_succ]
                refine G_all (rs := [17]) (by kernel_rfl) (by simp) ?_
                intro i hi; obtain rfl : i = 17 := by simpa using hi
                refine wpOp_run rfl (by rfl) ?_
                have kk := block_all bP
                have ff := fun i => block_free bP i
                go_simp
                have bP := block_setCell bP (i := 9) (.bool true)
                have gr := grown_setCell wd BQ 9 (.bool true)
                clear kk ff
                generalize wd.setCell ⟨BQ, 9, none⟩ (.bool true) = wn at *
                have hHeld : S wn := (by have h := hHeld; rw [HS.out] at h ⊢; exact ⟨grown_other gr h.1 (by omega), grown_other gr h.2 (by omega)⟩)
                have G := G.trans (Keeps2.grown gr)
                have X6 := Lib.hid (X6.out.grown gr (fun k hk => by cases hk; omega))
                have b7 := ownsRow_grown b7 gr (own_neT b7 bO (by decide))
                have bO := bP
                clear gr
                obtain ⟨wd, rfl⟩ : ∃ x, x = wn := ⟨_, rfl⟩
                try refine ⟨fun e => absurd e (by decide), ?_⟩
                refine G_free _ _ _ _ (by kernel_rfl) ?_
                try simp only [Act.put, List.setIfInBounds_toArray, List.set_cons_zero, List.set_cons_succ, List.getElem_toArray, List.getElem_cons_zero, List.getElem_cons_succ]
                refine wpAny_done (by kernel_rfl) ?_ _
                refine NoPanic.normal ?_
                skip
                obtain ⟨w6, rfl⟩ : ∃ v, v = wd := ⟨_, rfl⟩
                have bQ : w6.heap[BQ]? = some (.cells #[.int .i64 (wholeP p n.mark).me, .int .u32 ((wholeP p n.mark).v.n : Int), .int .i64 (wholeP p n.mark).v.p, .int .i64 (wholeP p n.mark).v.b, .int .u32 ((wholeP p n.mark).base.1 : Int), .int .u32 ((wholeP p n.mark).base.2 : Int), (.slice none 0 0), .bool (wholeP p n.mark).known, .bool (wholeP p n.mark).joined, .bool (wholeP p n.mark).instep, .int .u32 ((wholeP p n.mark).acked : Int)] 47 (0, 0)) := by simpa [wholeP] using bP
                have LJ := Lib.hid (show LgFr w6 base (.slice none 0 0) (wholeP p n.mark).log [] from LgFr.nil _ _)
                rw [HS.out] at hHeld
                have b2 := hHeld.1
                have b3 := hHeld.2
                clear bP bO hHeld K2 K3 hE
                have KQ := fun v (h : Ext w6 v) => block_all (h.keeps bQ)
                have K2 := fun v (h : Ext w6 v) => block_all (h.keeps b2)
                have K3 := fun v (h : Ext w6 v) => block_all (h.keeps b3)
                have hbz : base ≤ w6.heap.size := by have := block_lt bQ; omega
                have BQH := Lib.hid bQ
                have B2H := Lib.hid b2
                have B3H := Lib.hid b3
                clear bQ b2 b3
                go_upto_region 19 with fail
                refine wp_region_G 9 (fun v => Ext w6 v) (by kernel_rfl) fun wd hqd hHeld => ?_
                refine G_pure (i := 0) (u := ?vh1_0) rfl (by kernel_rfl) (by kernel_rfl) (by kernel_rfl) (fun _ _ _ h => h) (by decide) (Or.inl ⟨by rfl, ?hyh1_0⟩) hHeld ?_
                case hyh1_0 => (intro w hSw; go_simp; try with_reducible rfl)
                simp only [Act.put, List.setIfInBounds_toArray, List.set_cons_zero, List.set_cons_succ, List.getElem_toArray, List.getElem_cons_zero, List.getElem_cons_succ]
                refine G_pure (i := 1) (u := ?vh2_1) rfl (by kernel_rfl) (by kernel_rfl) (by kernel_rfl) (fun _ _ _ h => h) (by decide) (Or.inl ⟨by rfl, ?hyh2_1⟩) hHeld ?_
                case hyh2_1 => (intro w hSw; go_simp; try with_reducible rfl)
                simp only [Act.put, List.setIfInBounds_toArray, List.set_cons_zero, List.set_cons_succ, List.getElem_toArray, List.getElem_cons_zero, List.getElem_cons_succ]
                refine G_take (i := 2) (u := ?vh3_2) rfl (by kernel_rfl) (by kernel_rfl) (by kernel_rfl) (fun _ _ _ h => h) rfl (by kernel_rfl) (by decide) (by rfl) (Or.inl ⟨by rfl, ?hyh3_2⟩) hHeld ?_
                case hyh3_2 => (intro w hSw; go_simp; try with_reducible rfl)
                simp only [Act.put, List.setIfInBounds_toArray, List.set_cons_zero, List.set_cons_succ, List.getElem_toArray, List.getElem_cons_zero, List.getElem_cons_succ]
                refine G_pure (i := 4) (u := ?vh4_4) rfl (by kernel_rfl) (by kernel_rfl) (by kernel_rfl) (fun _ _ _ h => h) (by decide) (Or.inl ⟨by rfl, ?hyh4_4⟩) hHeld ?_
                case hyh4_4 => (intro w hSw; go_simp; try with_reducible rfl)
                simp only [Act.put, List.setIfInBounds_toArray, List.set_cons_zero, List.set_cons_succ, List.getElem_toArray, List.getElem_cons_zero, List.getElem_cons_succ]
                refine G_take (i := 5) (u := ?vh5_5) rfl (by kernel_rfl) (by kernel_rfl) (by kernel_rfl) (fun _ _ _ h => h) rfl (by kernel_rfl) (by decide) (by rfl) (Or.inl ⟨by rfl, ?hyh5_5⟩) hHeld ?_
                case hyh5_5 => (intro w hSw; go_simp; try with_reducible rfl)
                simp only [Act.put, List.setIfInBounds_toArray, List.set_cons_zero, List.set_cons_succ, List.getElem_toArray, List.getElem_cons_zero, List.getElem_cons_succ]
                refine G_pure (i := 6) (u := ?vh6_6) rfl (by kernel_rfl) (by kernel_rfl) (by kernel_rfl) (fun _ _ _ h => h) (by decide) (Or.inl ⟨by rfl, ?hyh6_6⟩) hHeld ?_
                case hyh6_6 => (intro w hSw; go_simp; try with_reducible rfl)
                simp only [Act.put, List.setIfInBounds_toArray, List.set_cons_zero, List.set_cons_succ, List.getElem_toArray, List.getElem_cons_zero, List.getElem_cons_succ]
                refine G_all (rs := [3, 7]) (by kernel_rfl) (by simp) ?_
                intro i hi; have hi' : i = 3 ∨ i = 7 := by simpa using hi
                clear hi; rcases hi' with rfl | rfl
                · refine wpOp_run rfl (by rfl) ?_
                  go_simp
                  refine Calls.mono (bkAck _ _ (wholeP p n.mark) n.mark w.heap.size BQ _ (hHeld.keeps B2H.out) (hHeld.keeps BQH.out) HJ.out hn.mark (hK.ext (X6.out.trans hHeld))) ?_
                  rintro e w7 ⟨v7, u7, rfl, il7, x7⟩
                  have il7 := il7.base (Nat.le_trans hbz hHeld.size)
                  have hHeld := hHeld.trans x7
                  first | refine ⟨fun _ => hHeld, ?_⟩ | refine ⟨hHeld, ?_⟩
                  try simp only [Act.put, List.setIfInBounds_toArray, List.set_cons_zero, List.set_cons_succ, List.getElem_toArray, List.getElem_cons_zero, List.getElem_cons_succ]
                  try have iw := iw.ext x7
                  try have il7 := il7.ext x7
                  skip
                  obtain ⟨wd, rfl⟩ : ∃ x, x = w7 := ⟨_, rfl⟩
                  refine G_pure (i := 8) (u := ?vh7_8) rfl (by kernel_rfl) (by kernel_rfl) (by kernel_rfl) (fun _ _ _ h => h) (by decide) (Or.inl ⟨by rfl, ?hyh7_8⟩) hHeld ?_
                  case hyh7_8 => (intro w hSw; go_simp; try with_reducible rfl)
                  simp only [Act.put, List.setIfInBounds_toArray, List.set_cons_zero, List.set_cons_succ, List.getElem_toArray, List.getElem_cons_zero, List.getElem_cons_succ]
                  refine G_all (rs := [7]) (by kernel_rfl) (by simp) ?_
                  intro i hi; obtain rfl : i = 7 := by simpa using hi
                  refine wpOp_run rfl (by rfl) ?_
                  refine wp_buildOne 89 (.tmp 157) rfl (wkV ⟨true, n.bytes⟩ (an, cn)) (by rfl) (build_one _ 89 93 2 Tryd.underlying89 infoWk2 (by omega) (by omega) _ rfl) ?_
                  have xb : Ext wd (wd.alloc (.cells (wkV ⟨true, n.bytes⟩ (an, cn)).toArray 93)) := (Ext.refl wd).alloc _
                  have iw := wk_one (base := base) (e := ⟨true, n.bytes⟩) (u := (an, cn)) (Nat.le_trans hbz hHeld.size) (ownsRow_ext b7 hHeld)
                  have hHeld := hHeld.trans xb
                  try have il7 := il7.ext xb
                  clear xb
                  generalize wd.heap.size = BW at *
                  generalize wd.alloc (.cells (wkV ⟨true, n.bytes⟩ (an, cn)).toArray 93) = wn at *
                  obtain ⟨wd, rfl⟩ : ∃ x, x = wn := ⟨_, rfl⟩
                  first | refine ⟨fun _ => hHeld, ?_⟩ | refine ⟨hHeld, ?_⟩
                  try simp only [Act.put, List.setIfInBounds_toArray, List.set_cons_zero, List.set_cons_succ, List.getElem_toArray, List.getElem_cons_zero, List.getElem_cons_succ]
                  refine G_all (rs := [9]) (by kernel_rfl) (by simp) ?_
                  intro i hi; obtain rfl : i = 9 := by simpa using hi
                  refine wpOp_run rfl (by rfl) ?_
                  go_simp
                  try refine ⟨fun e => absurd e (by decide), ?_⟩
                  refine G_free _ _ _ _ (by kernel_rfl) ?_
                  try simp only [Act.put, List.setIfInBounds_toArray, List.set_cons_zero, List.set_cons_succ, List.getElem_toArray, List.getElem_cons_zero, List.getElem_cons_succ]
                  refine wpAny_done (by kernel_rfl) ?_ _
                  refine NoPanic.normal ?_
                  go_wp2_with fail
                  go_ret2
                  exact ⟨_, [], _, _, _, _, rfl, hHeld.keeps BQH.out, LJ.out.ext hHeld, il7, iw, X6.out.trans hHeld, G.trans (Keeps2.ext hHeld)⟩
                · refine wpOp_run rfl (by rfl) ?_
                  refine wp_buildOne 89 (.tmp 157) rfl (wkV ⟨true, n.bytes⟩ (an, cn)) (by rfl) (build_one _ 89 93 2 Tryd.underlying89 infoWk2 (by omega) (by omega) _ rfl) ?_
                  have xb : Ext wd (wd.alloc (.cells (wkV ⟨true, n.bytes⟩ (an, cn)).toArray 93)) := (Ext.refl wd).alloc _
                  have iw := wk_one (base := base) (e := ⟨true, n.bytes⟩) (u := (an, cn)) (Nat.le_trans hbz hHeld.size) (ownsRow_ext b7 hHeld)
                  have hHeld := hHeld.trans xb
                  try have il7 := il7.ext xb
                  clear xb
                  generalize wd.heap.size = BW at *
                  generalize wd.alloc (.cells (wkV ⟨true, n.bytes⟩ (an, cn)).toArray 93) = wn at *
                  obtain ⟨wd, rfl⟩ : ∃ x, x = wn := ⟨_, rfl⟩
                  first | refine ⟨fun _ => hHeld, ?_⟩ | refine ⟨hHeld, ?_⟩
                  try simp only [Act.put, List.setIfInBounds_toArray, List.set_cons_zero, List.set_cons_succ, List.getElem_toArray, List.getElem_cons_zero, List.getElem_cons_succ]
                  refine G_all (rs := [3]) (by kernel_rfl) (by simp) ?_
                  intro i hi; obtain rfl : i = 3 := by simpa using hi
                  refine wpOp_run rfl (by rfl) ?_
                  go_simp
                  refine Calls.mono (bkAck _ _ (wholeP p n.mark) n.mark w.heap.size BQ _ (hHeld.keeps B2H.out) (hHeld.keeps BQH.out) HJ.out hn.mark (hK.ext (X6.out.trans hHeld))) ?_
                  rintro e w7 ⟨v7, u7, rfl, il7, x7⟩
                  have il7 := il7.base (Nat.le_trans hbz hHeld.size)
                  have hHeld := hHeld.trans x7
                  first | refine ⟨fun _ => hHeld, ?_⟩ | refine ⟨hHeld, ?_⟩
                  try simp only [Act.put, List.setIfInBounds_toArray, List.set_cons_zero, List.set_cons_succ, List.getElem_toArray, List.getElem_cons_zero, List.getElem_cons_succ]
                  try have iw := iw.ext x7
                  try have il7 := il7.ext x7
                  skip
                  obtain ⟨wd, rfl⟩ : ∃ x, x = w7 := ⟨_, rfl⟩
                  refine G_pure (i := 8) (u := ?vh8_8) rfl (by kernel_rfl) (by kernel_rfl) (by kernel_rfl) (fun _ _ _ h => h) (by decide) (Or.inl ⟨by rfl, ?hyh8_8⟩) hHeld ?_
                  case hyh8_8 => (intro w hSw; go_simp; try with_reducible rfl)
                  simp only [Act.put, List.setIfInBounds_toArray, List.set_cons_zero, List.set_cons_succ, List.getElem_toArray, List.getElem_cons_zero, List.getElem_cons_succ]
                  refine G_all (rs := [9]) (by kernel_rfl) (by simp) ?_
                  intro i hi; obtain rfl : i = 9 := by simpa using hi
                  refine wpOp_run rfl (by rfl) ?_
                  go_simp
                  try refine ⟨fun e => absurd e (by decide), ?_⟩
                  refine G_free _ _ _ _ (by kernel_rfl) ?_
                  try simp only [Act.put, List.setIfInBounds_toArray, List.set_cons_zero, List.set_cons_succ, List.getElem_toArray, List.getElem_cons_zero, List.getElem_cons_succ]
                  refine wpAny_done (by kernel_rfl) ?_ _
                  refine NoPanic.normal ?_
                  go_wp2_with fail
                  go_ret2
                  exact ⟨_, [], _, _, _, _, rfl, hHeld.keeps BQH.out, LJ.out.ext hHeld, il7, iw, X6.out.trans hHeld, G.trans (Keeps2.ext hHeld)⟩

          · have t2 : (n.kind == 2) = false := by rw [beq_eq_false_iff_ne]; exact k2
            have t3 : (n.kind == 3) = false := by rw [beq_eq_false_iff_ne]; exact k3
            have t4 : (n.kind == 4) = false := by rw [beq_eq_false_iff_ne]; exact k4
            have hP : P1 = p := by rw [← HP1.out]; unfold folP; rw [if_neg k2, if_neg k3, if_neg k4]
            have hL : L1 = [] := by rw [← HL1.out]; unfold folL; rw [if_neg k3, if_neg k4]
            have hW : W1 = [] := by rw [← HW1.out]; unfold folW; rw [if_neg k3, if_neg k4]
            clear k2 k3 k4
            subst hP
            subst hL
            subst hW
            go_wp2_with fail
            go_ret2
            exact ⟨_, us, _, _, _, _, rfl, bQ, HIL.out.fr, LtOwn.nil _ _, WkOwn.nil _ _, HX0.out, Keeps2.ext HX.out⟩
end Go.Proofs.YtkcddcomjbihgaaDoor
