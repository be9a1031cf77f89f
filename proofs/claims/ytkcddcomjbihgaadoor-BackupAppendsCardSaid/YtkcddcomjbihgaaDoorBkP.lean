/- Backup: lead. -/
import Derived.Test.YtkcddcomjbihgaaDoorBkO
namespace Go.Proofs.YtkcddcomjbihgaaDoor
open Go.RowKit
set_option linter.unusedVariables false
set_option linter.unusedSimpArgs false

theorem cell_grown {w w' : World} {g : Nat} (gr : w.grownBy w' (some g)) {a : Addr} {v : Value} (h : w.cell? a = some v) (hne : a.block ≠ g) : w'.cell? a = some v := by
  have hlt : a.block < w.heap.size := by
    by_cases q : a.block < w.heap.size
    · exact q
    · unfold World.cell? at h
      rw [Array.getElem?_eq_none (by omega)] at h
      simp at h
  unfold World.cell? at h ⊢
  rw [gr.block a.block hlt (by simpa using hne)]
  exact h
theorem Tabs.grown {w w' : World} (h : Tabs w) {g : Nat} (gr : w.grownBy w' (some g)) (h1 : (1 : Nat) ≠ g) (h2 : (0 : Nat) ≠ g) : Tabs w' := ⟨fun i hi => cell_grown gr (h.k i hi) h1, fun i hi => cell_grown gr (h.s i hi) h2⟩
theorem max_cast (a m : Nat) : (if a < m then (m : Int) else (a : Int)) = ((max a m : Nat) : Int) := by split <;> omega
/-- The peer that has heard. -/
def heardP (p : Pr) (n : Nt) : Pr := if (hasB p n.mark && (n.kind == 1 || n.kind == 5)) = true then { p with known := true, acked := max p.acked n.mark.2 } else p
def leadL (p : Pr) (us : List Hd) (n : Nt) (b : List UInt8) : List LtE :=
  if (n.kind == 1) = false then [] else if meq n.mark (lastM p) = true then [⟨otherI p, encN ⟨2, p.v.n, n.mark, m0, []⟩⟩]
  else if hasB p n.mark = true then behL p n.mark.2 us else if b.length ≤ 40000 then [⟨otherI p, encN ⟨4, p.v.n, lastM p, m0, b⟩⟩] else []
/-- What lead gives. -/
def LeadPost (w : World) (BQ : Nat) (vl : Value) (P1 : Pr) (ls : List LtE) (e : Ending) (w' : World) : Prop :=
  ∃ v u, e = .returned v ∧ w'.heap[BQ]? = some (.cells #[.int .i64 P1.me, .int .u32 (P1.v.n : Int), .int .i64 P1.v.p, .int .i64 P1.v.b, .int .u32 (P1.base.1 : Int), .int .u32 (P1.base.2 : Int), vl, .bool P1.known, .bool P1.joined, .bool P1.instep, .int .u32 (P1.acked : Int)] 47 (0, 0)) ∧ LtOwn w' w.heap.size v ls u ∧ w.grownBy w' (some BQ)
set_option maxHeartbeats 4000000 in
set_option maxRecDepth 100000 in
theorem bkLead (w : World) (vl vb vn : Value) (p : Pr) (us : List Hd) (base : Nat) (n : Nt) (b : List UInt8) (BQ : Nat) (hg1 : (1 : Nat) ≠ BQ) (hg2 : (0 : Nat) ≠ BQ) (hQ : w.heap[BQ]? = some (.cells #[.int .i64 p.me, .int .u32 (p.v.n : Int), .int .i64 p.v.p, .int .i64 p.v.b, .int .u32 (p.base.1 : Int), .int .u32 (p.base.2 : Int), vl, .bool p.known, .bool p.joined, .bool p.instep, .int .u32 (p.acked : Int)] 47 (0, 0))) (hok : ∀ e ∈ p.log, lgOk e) (hbl : ∀ e ∈ p.log, e.b.length ≤ 50000) (hus : LgFr w base vl p.log us) (hp : PrOk p)
    (hn : NtOk n) (hb : IsB w vb b) (hK : Tabs w) :
    Calls Tryd.prog 77 #[.pointer (some ⟨BQ, 0, none⟩), .agg #[.int .i64 n.kind, .int .u32 (n.view : Int), .int .u32 (n.mark.1 : Int), .int .u32 (n.mark.2 : Int), .int .u32 (n.prev.1 : Int), .int .u32 (n.prev.2 : Int), vn], vb] w (LeadPost w BQ vl (heardP p n) (leadL (heardP p n) us n b)) := by
  obtain ⟨ao, cap, rfl⟩ := hus.shape
  obtain ⟨ab, cb, rfl, -⟩ := hb.opened
  go_enter Tryd.func77, Tryd.ntmps77
  go_upto_region 1 with fail
  refine wp_forget (fun W => LgFr W base (.slice ao p.log.length cap) p.log us ∧ IsB W (.slice ab b.length cb) b ∧ Tabs W ∧ Ext w W ∧ W.heap[BQ]? = some (.cells #[.int .i64 p.me, .int .u32 (p.v.n : Int), .int .i64 p.v.p, .int .i64 p.v.b, .int .u32 (p.base.1 : Int), .int .u32 (p.base.2 : Int), (.slice ao p.log.length cap), .bool p.known, .bool p.joined, .bool p.instep, .int .u32 (p.acked : Int)] 47 (0, 0)) ∧ W.heap[w.heap.size]? = some (.cells #[.int .i64 n.kind, .int .u32 (n.view : Int), .int .u32 (n.mark.1 : Int), .int .u32 (n.mark.2 : Int), .int .u32 (n.prev.1 : Int), .int .u32 (n.prev.2 : Int), vn] 30 (0, 0))) ⟨hus.ext ((Ext.refl w).alloc _), hb.ext ((Ext.refl w).alloc _), hK.ext ((Ext.refl w).alloc _), (Ext.refl w).alloc _, blk_old hQ, heap_alloc_new w _⟩ ?_
  rintro W ⟨il, hb, hK, X, bP, bN⟩
  have hBQ := block_lt hQ
  have KP := fun v (h : Ext W v) => block_all (h.keeps bP)
  have KN := fun v (h : Ext W v) => block_all (h.keeps bN)
  have BP := Lib.hid bP
  have BN := Lib.hid bN
  have IL := Lib.hid il
  have HB := Lib.hid hb
  have HK := Lib.hid hK
  have HX := Lib.hid X
  have hXz := X.size
  obtain ⟨H, hH⟩ : ∃ H, hasB p n.mark = H := ⟨_, rfl⟩
  have HH := Lib.hid hH
  clear hK X bP bN hb hus il hQ hH
  refine wp_region_G 6 (fun v => Ext W v) (by kernel_rfl) fun wd hqd hHeld => ?_
  refine G_pure (i := 0) (u := ?va0) rfl (by kernel_rfl) (by kernel_rfl) (by kernel_rfl) (fun _ _ _ h => h) (by decide) (Or.inl ⟨by rfl, ?hya0⟩) hHeld ?_
  case hya0 => (intro w hSw; go_simp; try with_reducible rfl)
  simp only [Act.put, List.setIfInBounds_toArray, List.set_cons_zero, List.set_cons_succ, List.getElem_toArray, List.getElem_cons_zero, List.getElem_cons_succ]
  refine G_pure (i := 1) (u := ?va1) rfl (by kernel_rfl) (by kernel_rfl) (by kernel_rfl) (fun _ _ _ h => h) (by decide) (Or.inl ⟨by rfl, ?hya1⟩) hHeld ?_
  case hya1 => (intro w hSw; go_simp; try with_reducible rfl)
  simp only [Act.put, List.setIfInBounds_toArray, List.set_cons_zero, List.set_cons_succ, List.getElem_toArray, List.getElem_cons_zero, List.getElem_cons_succ]
  refine G_take (i := 2) (u := ?va2) rfl (by kernel_rfl) (by kernel_rfl) (by kernel_rfl) (fun _ _ _ h => h) rfl (by kernel_rfl) (by decide) (by rfl) (Or.inl ⟨by rfl, ?hya2⟩) hHeld ?_
  case hya2 => (intro w hSw; go_simp; try with_reducible rfl)
  simp only [Act.put, List.setIfInBounds_toArray, List.set_cons_zero, List.set_cons_succ, List.getElem_toArray, List.getElem_cons_zero, List.getElem_cons_succ]
  refine G_pure (i := 3) (u := ?va3) rfl (by kernel_rfl) (by kernel_rfl) (by kernel_rfl) (fun _ _ _ h => h) (by decide) (Or.inl ⟨by rfl, ?hya3⟩) hHeld ?_
  case hya3 => (intro w hSw; go_simp; try with_reducible rfl)
  simp only [Act.put, List.setIfInBounds_toArray, List.set_cons_zero, List.set_cons_succ, List.getElem_toArray, List.getElem_cons_zero, List.getElem_cons_succ]
  refine G_take (i := 4) (u := ?va4) rfl (by kernel_rfl) (by kernel_rfl) (by kernel_rfl) (fun _ _ _ h => h) rfl (by kernel_rfl) (by decide) (by rfl) (Or.inl ⟨by rfl, ?hya4⟩) hHeld ?_
  case hya4 => (intro w hSw; go_simp; try with_reducible rfl)
  simp only [Act.put, List.setIfInBounds_toArray, List.set_cons_zero, List.set_cons_succ, List.getElem_toArray, List.getElem_cons_zero, List.getElem_cons_succ]
  refine G_all (rs := [5]) (by kernel_rfl) (by simp) ?_
  intro i hi; obtain rfl : i = 5 := by simpa using hi
  refine wpOp_run rfl (by rfl) ?_
  go_simp
  refine Calls.mono (bkHas _ _ p n.mark ⟨hok, us, (IL.out.ext hHeld).u⟩) ?_
  rintro e w5 ⟨rfl, x5⟩
  rw [HH.out]
  have hHeld := hHeld.trans x5
  first | refine ⟨fun _ => hHeld, ?_⟩ | refine ⟨hHeld, ?_⟩
  try simp only [Act.put, List.setIfInBounds_toArray, List.set_cons_zero, List.set_cons_succ, List.getElem_toArray, List.getElem_cons_zero, List.getElem_cons_succ]
  refine G_all (rs := [6]) (by kernel_rfl) (by simp) ?_
  intro i hi; obtain rfl : i = 6 := by simpa using hi
  refine wpOp_run rfl (by rfl) ?_
  go_simp
  try refine ⟨fun e => absurd e (by decide), ?_⟩
  refine G_free _ _ _ _ (by kernel_rfl) ?_
  try simp only [Act.put, List.setIfInBounds_toArray, List.set_cons_zero, List.set_cons_succ, List.getElem_toArray, List.getElem_cons_zero, List.getElem_cons_succ]
  refine wpAny_done (by kernel_rfl) ?_ _
  refine NoPanic.normal ?_
  have bP := hHeld.keeps BP.out
  have bN := hHeld.keeps BN.out
  have il := IL.out.ext hHeld
  have HB := Lib.hid (HB.out.ext hHeld)
  have HK := Lib.hid (HK.out.ext hHeld)
  have HX := Lib.hid (HX.out.trans hHeld)
  have hc := block_all bP
  have hd := block_all bN
  clear KP KN BP BN IL hHeld hXz
  cases hk1 : (n.kind == 1) with
  | false =>
    have HK1 := Lib.hid hk1
    have HL := Lib.hid (show ∀ P, leadL P us n b = [] from fun P => by unfold leadL; rw [if_pos hk1])
    cases hk5 : (H && (n.kind == 5)) with
    | false =>
      have HP := Lib.hid (show heardP p n = p by unfold heardP; rw [HH.out, hk1, Bool.false_or, hk5]; rfl)
      have HK5 := Lib.hid hk5
      clear hk5
      cases hH : H with
      | false =>
        subst hH
        clear HH
        go_wp2_with fail
        go_ret
        exact ⟨.slice none 0 0, [], rfl, by rw [HP.out]; exact bP, by rw [HL.out]; exact LtOwn.nil _ _, ext_grown HX.out _⟩
      | true =>
        subst hH
        have hk5 := HK5.out
        rw [Bool.true_and] at hk5
        clear HH
        go_wp2_with fail
        go_ret
        exact ⟨.slice none 0 0, [], rfl, by rw [HP.out]; exact bP, by rw [HL.out]; exact LtOwn.nil _ _, ext_grown HX.out _⟩
    | true =>
      obtain ⟨hH, hk6⟩ := Bool.and_eq_true_iff.1 hk5
      subst hH
      obtain ⟨P1, hP1⟩ : ∃ P1, ({ p with known := true, acked := max p.acked n.mark.2 } : Pr) = P1 := ⟨_, rfl⟩
      have HP1 := Lib.hid hP1
      clear hP1
      have HP := Lib.hid (show heardP p n = P1 by rw [← HP1.out]; unfold heardP; rw [HH.out, hk6, Bool.or_true, Bool.and_true, if_pos rfl])
      clear HH hk5
      go_upto_region 4 with fail
      obtain ⟨w2, rfl⟩ : ∃ v, v = w5 := ⟨_, rfl⟩
      obtain ⟨S, hS⟩ : ∃ S : World → Prop, S = fun v => v.cell? ⟨BQ, 10, none⟩ = some (.int .u32 (p.acked : Int)) ∧ v.heap[w.heap.size]? = some (.cells #[.int .i64 n.kind, .int .u32 (n.view : Int), .int .u32 (n.mark.1 : Int), .int .u32 (n.mark.2 : Int), .int .u32 (n.prev.1 : Int), .int .u32 (n.prev.2 : Int), vn] 30 (0, 0)) := ⟨_, rfl⟩
      have K10 : ∀ v, S v → v.cell? ⟨BQ, 10, none⟩ = some (.int .u32 (p.acked : Int)) := fun v h => by rw [hS] at h; exact h.1
      have KN : ∀ v, S v → ∀ i, v.cell? ⟨w.heap.size, i, none⟩ = (#[.int .i64 n.kind, .int .u32 (n.view : Int), .int .u32 (n.mark.1 : Int), .int .u32 (n.mark.2 : Int), .int .u32 (n.prev.1 : Int), .int .u32 (n.prev.2 : Int), vn] : Array Value)[i]? := fun v h => block_all (show v.heap[w.heap.size]? = some (.cells #[.int .i64 n.kind, .int .u32 (n.view : Int), .int .u32 (n.mark.1 : Int), .int .u32 (n.mark.2 : Int), .int .u32 (n.prev.1 : Int), .int .u32 (n.prev.2 : Int), vn] 30 (0, 0)) from by rw [hS] at h; exact h.2)
      have HS := Lib.hid hS
      have BP := Lib.hid bP
      have BN := Lib.hid bN
      clear hc hd bP bN hS
      refine wp_region_G 15 (S) (by kernel_rfl) fun wd hqd hHeld => ?_
      have hE : Ext w2 wd := hHeld
      have bP := hE.keeps BP.out
      have hHeld : S wd := (by rw [HS.out]; exact ⟨block_all bP 10, hE.keeps BN.out⟩)
      refine G_pure (i := 0) (u := ?vb1_0) rfl (by kernel_rfl) (by kernel_rfl) (by kernel_rfl) (fun _ _ _ h => h) (by decide) (Or.inl ⟨by rfl, ?hyb1_0⟩) hHeld ?_
      case hyb1_0 => (intro w hSw; go_simp; try with_reducible rfl)
      simp only [Act.put, List.setIfInBounds_toArray, List.set_cons_zero, List.set_cons_succ, List.getElem_toArray, List.getElem_cons_zero, List.getElem_cons_succ]
      refine G_pure (i := 1) (u := ?vb2_1) rfl (by kernel_rfl) (by kernel_rfl) (by kernel_rfl) (fun _ _ _ h => h) (by decide) (Or.inl ⟨by rfl, ?hyb2_1⟩) hHeld ?_
      case hyb2_1 => (intro w hSw; go_simp; try with_reducible rfl)
      simp only [Act.put, List.setIfInBounds_toArray, List.set_cons_zero, List.set_cons_succ, List.getElem_toArray, List.getElem_cons_zero, List.getElem_cons_succ]
      refine G_pure (i := 2) (u := ?vb3_2) rfl (by kernel_rfl) (by kernel_rfl) (by kernel_rfl) (fun _ _ _ h => h) (by decide) (Or.inl ⟨by rfl, ?hyb3_2⟩) hHeld ?_
      case hyb3_2 => (intro w hSw; go_simp; try with_reducible rfl)
      simp only [Act.put, List.setIfInBounds_toArray, List.set_cons_zero, List.set_cons_succ, List.getElem_toArray, List.getElem_cons_zero, List.getElem_cons_succ]
      refine G_pure (i := 3) (u := ?vb4_3) rfl (by kernel_rfl) (by kernel_rfl) (by kernel_rfl) (fun _ _ _ h => h) (by decide) (Or.inl ⟨by rfl, ?hyb4_3⟩) hHeld ?_
      case hyb4_3 => (intro w hSw; go_simp; try with_reducible rfl)
      simp only [Act.put, List.setIfInBounds_toArray, List.set_cons_zero, List.set_cons_succ, List.getElem_toArray, List.getElem_cons_zero, List.getElem_cons_succ]
      refine G_pure (i := 4) (u := ?vb5_4) rfl (by kernel_rfl) (by kernel_rfl) (by kernel_rfl) (fun _ _ _ h => h) (by decide) (Or.inl ⟨by rfl, ?hyb5_4⟩) hHeld ?_
      case hyb5_4 => (intro w hSw; go_simp; try with_reducible rfl)
      simp only [Act.put, List.setIfInBounds_toArray, List.set_cons_zero, List.set_cons_succ, List.getElem_toArray, List.getElem_cons_zero, List.getElem_cons_succ]
      refine G_take (i := 5) (u := ?vb6_5) rfl (by kernel_rfl) (by kernel_rfl) (by kernel_rfl) (fun _ _ _ h => h) rfl (by kernel_rfl) (by decide) (by rfl) (Or.inl ⟨by rfl, ?hyb6_5⟩) hHeld ?_
      case hyb6_5 => (intro w hSw; have kk := K10 _ hSw; go_simp; try with_reducible rfl)
      simp only [Act.put, List.setIfInBounds_toArray, List.set_cons_zero, List.set_cons_succ, List.getElem_toArray, List.getElem_cons_zero, List.getElem_cons_succ]
      refine G_pure (i := 6) (u := ?vb7_6) rfl (by kernel_rfl) (by kernel_rfl) (by kernel_rfl) (fun _ _ _ h => h) (by decide) (Or.inl ⟨by rfl, ?hyb7_6⟩) hHeld ?_
      case hyb7_6 => (intro w hSw; go_simp; try with_reducible rfl)
      simp only [Act.put, List.setIfInBounds_toArray, List.set_cons_zero, List.set_cons_succ, List.getElem_toArray, List.getElem_cons_zero, List.getElem_cons_succ]
      refine G_pure (i := 7) (u := ?vb8_7) rfl (by kernel_rfl) (by kernel_rfl) (by kernel_rfl) (fun _ _ _ h => h) (by decide) (Or.inl ⟨by rfl, ?hyb8_7⟩) hHeld ?_
      case hyb8_7 => (intro w hSw; go_simp; try with_reducible rfl)
      simp only [Act.put, List.setIfInBounds_toArray, List.set_cons_zero, List.set_cons_succ, List.getElem_toArray, List.getElem_cons_zero, List.getElem_cons_succ]
      refine G_take (i := 8) (u := ?vb9_8) rfl (by kernel_rfl) (by kernel_rfl) (by kernel_rfl) (fun _ _ _ h => h) rfl (by kernel_rfl) (by decide) (by rfl) (Or.inl ⟨by rfl, ?hyb9_8⟩) hHeld ?_
      case hyb9_8 => (intro w hSw; have kk := KN _ hSw; go_simp; try with_reducible rfl)
      simp only [Act.put, List.setIfInBounds_toArray, List.set_cons_zero, List.set_cons_succ, List.getElem_toArray, List.getElem_cons_zero, List.getElem_cons_succ]
      refine G_take (i := 9) (u := ?vb10_9) rfl (by kernel_rfl) (by kernel_rfl) (by kernel_rfl) (fun _ _ _ h => h) rfl (by kernel_rfl) (by decide) (by rfl) (Or.inl ⟨by rfl, ?hyb10_9⟩) hHeld ?_
      case hyb10_9 => (intro w hSw; go_simp; try with_reducible rfl)
      simp only [Act.put, List.setIfInBounds_toArray, List.set_cons_zero, List.set_cons_succ, List.getElem_toArray, List.getElem_cons_zero, List.getElem_cons_succ]
      refine G_pure (i := 10) (u := ?vb11_10) rfl (by kernel_rfl) (by kernel_rfl) (by kernel_rfl) (fun _ _ _ h => h) (by decide) (Or.inl ⟨by rfl, ?hyb11_10⟩) hHeld ?_
      case hyb11_10 => (intro w hSw; go_simp; try with_reducible rfl)
      simp only [Act.put, List.setIfInBounds_toArray, List.set_cons_zero, List.set_cons_succ, List.getElem_toArray, List.getElem_cons_zero, List.getElem_cons_succ]
      refine G_pure (i := 11) (u := ?vb12_11) rfl (by kernel_rfl) (by kernel_rfl) (by kernel_rfl) (fun _ _ _ h => h) (by decide) (Or.inl ⟨by rfl, ?hyb12_11⟩) hHeld ?_
      case hyb12_11 => (intro w hSw; go_simp; try with_reducible rfl)
      simp only [Act.put, List.setIfInBounds_toArray, List.set_cons_zero, List.set_cons_succ, List.getElem_toArray, List.getElem_cons_zero, List.getElem_cons_succ]
      refine G_all (rs := [12]) (by kernel_rfl) (by simp) ?_
      intro i hi; obtain rfl : i = 12 := by simpa using hi
      refine wpOp_run rfl (by rfl) ?_
      have bq := block_setCell bP (i := 7) (.bool true)
      have ff := fun i => block_free bP i
      have kk := block_all bP
      go_simp
      have hHeld : S (wd.setCell ⟨BQ, 7, none⟩ (.bool true)) := (by rw [HS.out]; exact ⟨block_all bq 10, set_other (hE.keeps BN.out) (by omega)⟩)
      first | refine ⟨fun _ => hHeld, ?_⟩ | refine ⟨hHeld, ?_⟩
      try simp only [Act.put, List.setIfInBounds_toArray, List.set_cons_zero, List.set_cons_succ, List.getElem_toArray, List.getElem_cons_zero, List.getElem_cons_succ]
      refine G_pure (i := 13) (u := ?vb13_13) rfl (by kernel_rfl) (by kernel_rfl) (by kernel_rfl) (fun _ _ _ h => h) (by decide) (Or.inl ⟨by rfl, ?hyb13_13⟩) hHeld ?_
      case hyb13_13 => (intro w hSw; go_simp; try with_reducible rfl)
      simp only [Act.put, List.setIfInBounds_toArray, List.set_cons_zero, List.set_cons_succ, List.getElem_toArray, List.getElem_cons_zero, List.getElem_cons_succ]
      refine G_pure (i := 14) (u := ?vb14_14) rfl (by kernel_rfl) (by kernel_rfl) (by kernel_rfl) (fun _ _ _ h => h) (by decide) (Or.inl ⟨by rfl, ?hyb14_14⟩) hHeld ?_
      case hyb14_14 => (intro w hSw; go_simp; try with_reducible rfl)
      simp only [Act.put, List.setIfInBounds_toArray, List.set_cons_zero, List.set_cons_succ, List.getElem_toArray, List.getElem_cons_zero, List.getElem_cons_succ]
      refine G_all (rs := [15]) (by kernel_rfl) (by simp) ?_
      intro i hi; obtain rfl : i = 15 := by simpa using hi
      refine wpOp_run rfl (by rfl) ?_
      have kk := block_all bq
      have ff := fun i => block_free bq i
      go_simp
      try refine ⟨fun e => absurd e (by decide), ?_⟩
      refine G_free _ _ _ _ (by kernel_rfl) ?_
      try simp only [Act.put, List.setIfInBounds_toArray, List.set_cons_zero, List.set_cons_succ, List.getElem_toArray, List.getElem_cons_zero, List.getElem_cons_succ]
      refine wpAny_done (by kernel_rfl) ?_ _
      refine NoPanic.normal ?_
      have b4 : ((wd.setCell ⟨BQ, 7, none⟩ (.bool true)).setCell ⟨BQ, 10, none⟩ (.int .u32 (if p.acked < n.mark.2 then (n.mark.2 : Int) else (p.acked : Int)))).heap[BQ]? = some (.cells #[.int .i64 P1.me, .int .u32 (P1.v.n : Int), .int .i64 P1.v.p, .int .i64 P1.v.b, .int .u32 (P1.base.1 : Int), .int .u32 (P1.base.2 : Int), (.slice ao p.log.length cap), .bool P1.known, .bool P1.joined, .bool P1.instep, .int .u32 (P1.acked : Int)] 47 (0, 0)) := by
        have := block_setCell bq (i := 10) (.int .u32 (if p.acked < n.mark.2 then (n.mark.2 : Int) else (p.acked : Int)))
        rw [← HP1.out, ← max_cast]
        simpa using this
      have bN4 := set_other (set_other (hE.keeps BN.out) (r := BQ) (i := 7) (u := .bool true) (by omega)) (r := BQ) (i := 10) (u := .int .u32 (if p.acked < n.mark.2 then (n.mark.2 : Int) else (p.acked : Int))) (by omega)
      have gr := grown_trans (grown_setCell wd BQ 7 (.bool true)) (grown_setCell _ BQ 10 (.int .u32 (if p.acked < n.mark.2 then (n.mark.2 : Int) else (p.acked : Int))))
      have il := (il.ext hE).grown gr bP (by decide) (by decide)
      have G := grown_trans (ext_grown (HX.out.trans hE) (some BQ)) gr
      have HK := Lib.hid ((HK.out.ext hE).grown gr hg1 hg2)
      generalize (wd.setCell ⟨BQ, 7, none⟩ (.bool true)).setCell ⟨BQ, 10, none⟩ (.int .u32 (if p.acked < n.mark.2 then (n.mark.2 : Int) else (p.acked : Int))) = W4 at *
      clear gr bq bP kk ff hHeld K10 KN HX BP BN HB
      rw [max_cast]
      generalize Value.int .u32 ((max p.acked n.mark.2 : Nat) : Int) = tv
      go_wp2_with fail
      go_ret
      exact ⟨.slice none 0 0, [], rfl, by rw [HP.out]; exact b4, by rw [HL.out]; exact LtOwn.nil _ _, G⟩
  | true =>
    have HK1 := Lib.hid hk1
    cases hH : H with
    | true =>
      subst hH
      obtain ⟨P1, hP1⟩ : ∃ P1, ({ p with known := true, acked := max p.acked n.mark.2 } : Pr) = P1 := ⟨_, rfl⟩
      have HP1 := Lib.hid hP1
      clear hP1
      have HP := Lib.hid (show heardP p n = P1 by rw [← HP1.out]; unfold heardP; rw [HH.out, hk1, Bool.true_or, Bool.and_true, if_pos rfl])
      go_upto_region 4 with fail
      obtain ⟨w2, rfl⟩ : ∃ v, v = w5 := ⟨_, rfl⟩
      obtain ⟨S, hS⟩ : ∃ S : World → Prop, S = fun v => v.cell? ⟨BQ, 10, none⟩ = some (.int .u32 (p.acked : Int)) ∧ v.heap[w.heap.size]? = some (.cells #[.int .i64 n.kind, .int .u32 (n.view : Int), .int .u32 (n.mark.1 : Int), .int .u32 (n.mark.2 : Int), .int .u32 (n.prev.1 : Int), .int .u32 (n.prev.2 : Int), vn] 30 (0, 0)) := ⟨_, rfl⟩
      have K10 : ∀ v, S v → v.cell? ⟨BQ, 10, none⟩ = some (.int .u32 (p.acked : Int)) := fun v h => by rw [hS] at h; exact h.1
      have KN : ∀ v, S v → ∀ i, v.cell? ⟨w.heap.size, i, none⟩ = (#[.int .i64 n.kind, .int .u32 (n.view : Int), .int .u32 (n.mark.1 : Int), .int .u32 (n.mark.2 : Int), .int .u32 (n.prev.1 : Int), .int .u32 (n.prev.2 : Int), vn] : Array Value)[i]? := fun v h => block_all (show v.heap[w.heap.size]? = some (.cells #[.int .i64 n.kind, .int .u32 (n.view : Int), .int .u32 (n.mark.1 : Int), .int .u32 (n.mark.2 : Int), .int .u32 (n.prev.1 : Int), .int .u32 (n.prev.2 : Int), vn] 30 (0, 0)) from by rw [hS] at h; exact h.2)
      have HS := Lib.hid hS
      have BP := Lib.hid bP
      have BN := Lib.hid bN
      clear hc hd bP bN hS
      refine wp_region_G 15 (S) (by kernel_rfl) fun wd hqd hHeld => ?_
      have hE : Ext w2 wd := hHeld
      have bP := hE.keeps BP.out
      have hHeld : S wd := (by rw [HS.out]; exact ⟨block_all bP 10, hE.keeps BN.out⟩)
      refine G_pure (i := 0) (u := ?vb1_0) rfl (by kernel_rfl) (by kernel_rfl) (by kernel_rfl) (fun _ _ _ h => h) (by decide) (Or.inl ⟨by rfl, ?hyb1_0⟩) hHeld ?_
      case hyb1_0 => (intro w hSw; go_simp; try with_reducible rfl)
      simp only [Act.put, List.setIfInBounds_toArray, List.set_cons_zero, List.set_cons_succ, List.getElem_toArray, List.getElem_cons_zero, List.getElem_cons_succ]
      refine G_pure (i := 1) (u := ?vb2_1) rfl (by kernel_rfl) (by kernel_rfl) (by kernel_rfl) (fun _ _ _ h => h) (by decide) (Or.inl ⟨by rfl, ?hyb2_1⟩) hHeld ?_
      case hyb2_1 => (intro w hSw; go_simp; try with_reducible rfl)
      simp only [Act.put, List.setIfInBounds_toArray, List.set_cons_zero, List.set_cons_succ, List.getElem_toArray, List.getElem_cons_zero, List.getElem_cons_succ]
      refine G_pure (i := 2) (u := ?vb3_2) rfl (by kernel_rfl) (by kernel_rfl) (by kernel_rfl) (fun _ _ _ h => h) (by decide) (Or.inl ⟨by rfl, ?hyb3_2⟩) hHeld ?_
      case hyb3_2 => (intro w hSw; go_simp; try with_reducible rfl)
      simp only [Act.put, List.setIfInBounds_toArray, List.set_cons_zero, List.set_cons_succ, List.getElem_toArray, List.getElem_cons_zero, List.getElem_cons_succ]
      refine G_pure (i := 3) (u := ?vb4_3) rfl (by kernel_rfl) (by kernel_rfl) (by kernel_rfl) (fun _ _ _ h => h) (by decide) (Or.inl ⟨by rfl, ?hyb4_3⟩) hHeld ?_
      case hyb4_3 => (intro w hSw; go_simp; try with_reducible rfl)
      simp only [Act.put, List.setIfInBounds_toArray, List.set_cons_zero, List.set_cons_succ, List.getElem_toArray, List.getElem_cons_zero, List.getElem_cons_succ]
      refine G_pure (i := 4) (u := ?vb5_4) rfl (by kernel_rfl) (by kernel_rfl) (by kernel_rfl) (fun _ _ _ h => h) (by decide) (Or.inl ⟨by rfl, ?hyb5_4⟩) hHeld ?_
      case hyb5_4 => (intro w hSw; go_simp; try with_reducible rfl)
      simp only [Act.put, List.setIfInBounds_toArray, List.set_cons_zero, List.set_cons_succ, List.getElem_toArray, List.getElem_cons_zero, List.getElem_cons_succ]
      refine G_take (i := 5) (u := ?vb6_5) rfl (by kernel_rfl) (by kernel_rfl) (by kernel_rfl) (fun _ _ _ h => h) rfl (by kernel_rfl) (by decide) (by rfl) (Or.inl ⟨by rfl, ?hyb6_5⟩) hHeld ?_
      case hyb6_5 => (intro w hSw; have kk := K10 _ hSw; go_simp; try with_reducible rfl)
      simp only [Act.put, List.setIfInBounds_toArray, List.set_cons_zero, List.set_cons_succ, List.getElem_toArray, List.getElem_cons_zero, List.getElem_cons_succ]
      refine G_pure (i := 6) (u := ?vb7_6) rfl (by kernel_rfl) (by kernel_rfl) (by kernel_rfl) (fun _ _ _ h => h) (by decide) (Or.inl ⟨by rfl, ?hyb7_6⟩) hHeld ?_
      case hyb7_6 => (intro w hSw; go_simp; try with_reducible rfl)
      simp only [Act.put, List.setIfInBounds_toArray, List.set_cons_zero, List.set_cons_succ, List.getElem_toArray, List.getElem_cons_zero, List.getElem_cons_succ]
      refine G_pure (i := 7) (u := ?vb8_7) rfl (by kernel_rfl) (by kernel_rfl) (by kernel_rfl) (fun _ _ _ h => h) (by decide) (Or.inl ⟨by rfl, ?hyb8_7⟩) hHeld ?_
      case hyb8_7 => (intro w hSw; go_simp; try with_reducible rfl)
      simp only [Act.put, List.setIfInBounds_toArray, List.set_cons_zero, List.set_cons_succ, List.getElem_toArray, List.getElem_cons_zero, List.getElem_cons_succ]
      refine G_take (i := 8) (u := ?vb9_8) rfl (by kernel_rfl) (by kernel_rfl) (by kernel_rfl) (fun _ _ _ h => h) rfl (by kernel_rfl) (by decide) (by rfl) (Or.inl ⟨by rfl, ?hyb9_8⟩) hHeld ?_
      case hyb9_8 => (intro w hSw; have kk := KN _ hSw; go_simp; try with_reducible rfl)
      simp only [Act.put, List.setIfInBounds_toArray, List.set_cons_zero, List.set_cons_succ, List.getElem_toArray, List.getElem_cons_zero, List.getElem_cons_succ]
      refine G_take (i := 9) (u := ?vb10_9) rfl (by kernel_rfl) (by kernel_rfl) (by kernel_rfl) (fun _ _ _ h => h) rfl (by kernel_rfl) (by decide) (by rfl) (Or.inl ⟨by rfl, ?hyb10_9⟩) hHeld ?_
      case hyb10_9 => (intro w hSw; go_simp; try with_reducible rfl)
      simp only [Act.put, List.setIfInBounds_toArray, List.set_cons_zero, List.set_cons_succ, List.getElem_toArray, List.getElem_cons_zero, List.getElem_cons_succ]
      refine G_pure (i := 10) (u := ?vb11_10) rfl (by kernel_rfl) (by kernel_rfl) (by kernel_rfl) (fun _ _ _ h => h) (by decide) (Or.inl ⟨by rfl, ?hyb11_10⟩) hHeld ?_
      case hyb11_10 => (intro w hSw; go_simp; try with_reducible rfl)
      simp only [Act.put, List.setIfInBounds_toArray, List.set_cons_zero, List.set_cons_succ, List.getElem_toArray, List.getElem_cons_zero, List.getElem_cons_succ]
      refine G_pure (i := 11) (u := ?vb12_11) rfl (by kernel_rfl) (by kernel_rfl) (by kernel_rfl) (fun _ _ _ h => h) (by decide) (Or.inl ⟨by rfl, ?hyb12_11⟩) hHeld ?_
      case hyb12_11 => (intro w hSw; go_simp; try with_reducible rfl)
      simp only [Act.put, List.setIfInBounds_toArray, List.set_cons_zero, List.set_cons_succ, List.getElem_toArray, List.getElem_cons_zero, List.getElem_cons_succ]
      refine G_all (rs := [12]) (by kernel_rfl) (by simp) ?_
      intro i hi; obtain rfl : i = 12 := by simpa using hi
      refine wpOp_run rfl (by rfl) ?_
      have bq := block_setCell bP (i := 7) (.bool true)
      have ff := fun i => block_free bP i
      have kk := block_all bP
      go_simp
      have hHeld : S (wd.setCell ⟨BQ, 7, none⟩ (.bool true)) := (by rw [HS.out]; exact ⟨block_all bq 10, set_other (hE.keeps BN.out) (by omega)⟩)
      first | refine ⟨fun _ => hHeld, ?_⟩ | refine ⟨hHeld, ?_⟩
      try simp only [Act.put, List.setIfInBounds_toArray, List.set_cons_zero, List.set_cons_succ, List.getElem_toArray, List.getElem_cons_zero, List.getElem_cons_succ]
      refine G_pure (i := 13) (u := ?vb13_13) rfl (by kernel_rfl) (by kernel_rfl) (by kernel_rfl) (fun _ _ _ h => h) (by decide) (Or.inl ⟨by rfl, ?hyb13_13⟩) hHeld ?_
      case hyb13_13 => (intro w hSw; go_simp; try with_reducible rfl)
      simp only [Act.put, List.setIfInBounds_toArray, List.set_cons_zero, List.set_cons_succ, List.getElem_toArray, List.getElem_cons_zero, List.getElem_cons_succ]
      refine G_pure (i := 14) (u := ?vb14_14) rfl (by kernel_rfl) (by kernel_rfl) (by kernel_rfl) (fun _ _ _ h => h) (by decide) (Or.inl ⟨by rfl, ?hyb14_14⟩) hHeld ?_
      case hyb14_14 => (intro w hSw; go_simp; try with_reducible rfl)
      simp only [Act.put, List.setIfInBounds_toArray, List.set_cons_zero, List.set_cons_succ, List.getElem_toArray, List.getElem_cons_zero, List.getElem_cons_succ]
      refine G_all (rs := [15]) (by kernel_rfl) (by simp) ?_
      intro i hi; obtain rfl : i = 15 := by simpa using hi
      refine wpOp_run rfl (by rfl) ?_
      have kk := block_all bq
      have ff := fun i => block_free bq i
      go_simp
      try refine ⟨fun e => absurd e (by decide), ?_⟩
      refine G_free _ _ _ _ (by kernel_rfl) ?_
      try simp only [Act.put, List.setIfInBounds_toArray, List.set_cons_zero, List.set_cons_succ, List.getElem_toArray, List.getElem_cons_zero, List.getElem_cons_succ]
      refine wpAny_done (by kernel_rfl) ?_ _
      refine NoPanic.normal ?_
      have b4 : ((wd.setCell ⟨BQ, 7, none⟩ (.bool true)).setCell ⟨BQ, 10, none⟩ (.int .u32 (if p.acked < n.mark.2 then (n.mark.2 : Int) else (p.acked : Int)))).heap[BQ]? = some (.cells #[.int .i64 P1.me, .int .u32 (P1.v.n : Int), .int .i64 P1.v.p, .int .i64 P1.v.b, .int .u32 (P1.base.1 : Int), .int .u32 (P1.base.2 : Int), (.slice ao p.log.length cap), .bool P1.known, .bool P1.joined, .bool P1.instep, .int .u32 (P1.acked : Int)] 47 (0, 0)) := by
        have := block_setCell bq (i := 10) (.int .u32 (if p.acked < n.mark.2 then (n.mark.2 : Int) else (p.acked : Int)))
        rw [← HP1.out, ← max_cast]
        simpa using this
      have bN4 := set_other (set_other (hE.keeps BN.out) (r := BQ) (i := 7) (u := .bool true) (by omega)) (r := BQ) (i := 10) (u := .int .u32 (if p.acked < n.mark.2 then (n.mark.2 : Int) else (p.acked : Int))) (by omega)
      have gr := grown_trans (grown_setCell wd BQ 7 (.bool true)) (grown_setCell _ BQ 10 (.int .u32 (if p.acked < n.mark.2 then (n.mark.2 : Int) else (p.acked : Int))))
      have il := (il.ext hE).grown gr bP (by decide) (by decide)
      have G := grown_trans (ext_grown (HX.out.trans hE) (some BQ)) gr
      have HK := Lib.hid ((HK.out.ext hE).grown gr hg1 hg2)
      generalize (wd.setCell ⟨BQ, 7, none⟩ (.bool true)).setCell ⟨BQ, 10, none⟩ (.int .u32 (if p.acked < n.mark.2 then (n.mark.2 : Int) else (p.acked : Int))) = W4 at *
      clear gr bq bP kk ff hHeld K10 KN HX BP BN HB
      rw [max_cast]
      generalize Value.int .u32 ((max p.acked n.mark.2 : Nat) : Int) = tv
      have hlg : p.log = P1.log := by first | rfl | (rw [← HP1.out])
      have hp1 : PrOk P1 := by first | exact hp | (rw [← HP1.out]; exact ⟨hp.me, hp.vn, hp.vp, hp.vb, hp.base, by show max p.acked n.mark.2 < _; have := hp.acked; have := hn.mark.2; omega⟩)
      have hot : otherI P1 = otherI p := by first | rfl | (rw [← HP1.out]; rfl)
      have KP := fun v (h : Ext W4 v) => block_all (h.keeps b4)
      have KN := fun v (h : Ext W4 v) => block_all (h.keeps bN4)
      have IL := Lib.hid (show IsLgU W4 (.slice ao p.log.length cap) P1.log us by rw [← hlg]; exact il.u)
      have hokP : ∀ e ∈ P1.log, lgOk e := by rw [← hlg]; exact hok
      have hblP : ∀ e ∈ P1.log, e.b.length ≤ 50000 := by rw [← hlg]; exact hbl
      obtain ⟨M, hM⟩ : ∃ M, lastM P1 = M := ⟨_, rfl⟩
      have HM := Lib.hid hM
      have B4 := Lib.hid b4
      have BN4 := Lib.hid bN4
      have HOK := Lib.hid hokP
      have HBL := Lib.hid hblP
      have HLG := Lib.hid hlg
      have HOT := Lib.hid hot
      have GW := Lib.hid G
      clear hM il b4 bN4 hokP hblP hlg hot G
      have hme := mkEql
      go_upto_region 7 with fail
      refine wp_region_G 7 (fun v => Ext W4 v) (by kernel_rfl) fun wd hqd hHeld => ?_
      refine G_pure (i := 0) (u := ?vc0) rfl (by kernel_rfl) (by kernel_rfl) (by kernel_rfl) (fun _ _ _ h => h) (by decide) (Or.inl ⟨by rfl, ?hyc0⟩) hHeld ?_
      case hyc0 => (intro w hSw; go_simp; try with_reducible rfl)
      simp only [Act.put, List.setIfInBounds_toArray, List.set_cons_zero, List.set_cons_succ, List.getElem_toArray, List.getElem_cons_zero, List.getElem_cons_succ]
      refine C_take (i := 1) (u := ?vc1) [6, 7] rfl (by kernel_rfl) (by kernel_rfl) (by kernel_rfl) (fun _ _ _ h => h) (by kernel_rfl) (by kernel_rfl) (by kernel_rfl) (by kernel_rfl) (Or.inl ⟨by rfl, ?hyc1⟩) hHeld ?_
      case hyc1 => (intro w hSw; go_simp; try with_reducible rfl)
      simp only [Act.put, List.setIfInBounds_toArray, List.set_cons_zero, List.set_cons_succ, List.getElem_toArray, List.getElem_cons_zero, List.getElem_cons_succ]
      refine G_pure (i := 2) (u := ?vc2) rfl (by kernel_rfl) (by kernel_rfl) (by kernel_rfl) (fun _ _ _ h => h) (by decide) (Or.inl ⟨by rfl, ?hyc2⟩) hHeld ?_
      case hyc2 => (intro w hSw; go_simp; try with_reducible rfl)
      simp only [Act.put, List.setIfInBounds_toArray, List.set_cons_zero, List.set_cons_succ, List.getElem_toArray, List.getElem_cons_zero, List.getElem_cons_succ]
      refine G_pure (i := 3) (u := ?vc3) rfl (by kernel_rfl) (by kernel_rfl) (by kernel_rfl) (fun _ _ _ h => h) (by decide) (Or.inl ⟨by rfl, ?hyc3⟩) hHeld ?_
      case hyc3 => (intro w hSw; go_simp; try with_reducible rfl)
      simp only [Act.put, List.setIfInBounds_toArray, List.set_cons_zero, List.set_cons_succ, List.getElem_toArray, List.getElem_cons_zero, List.getElem_cons_succ]
      refine C_take (i := 4) (u := ?vc4) [5, 7] rfl (by kernel_rfl) (by kernel_rfl) (by kernel_rfl) (fun _ _ _ h => h) (by kernel_rfl) (by kernel_rfl) (by kernel_rfl) (by kernel_rfl) (Or.inl ⟨by rfl, ?hyc4⟩) hHeld ?_
      case hyc4 => (intro w hSw; go_simp; try with_reducible rfl)
      simp only [Act.put, List.setIfInBounds_toArray, List.set_cons_zero, List.set_cons_succ, List.getElem_toArray, List.getElem_cons_zero, List.getElem_cons_succ]
      refine G_all (rs := [5]) (by kernel_rfl) (by simp) ?_
      intro i hi; obtain rfl : i = 5 := by simpa using hi
      refine wpOp_run rfl (by rfl) ?_
      go_simp
      refine Calls.mono (bkLast _ _ P1 ⟨HOK.out, us, IL.out.ext hHeld⟩) ?_
      rintro e w6 ⟨rfl, x6⟩
      rw [HM.out]
      have hHeld := hHeld.trans x6
      first | refine ⟨fun _ => hHeld, ?_⟩ | refine ⟨hHeld, ?_⟩
      try simp only [Act.put, List.setIfInBounds_toArray, List.set_cons_zero, List.set_cons_succ, List.getElem_toArray, List.getElem_cons_zero, List.getElem_cons_succ]
      refine G_pure (i := 6) (u := ?vc6) rfl (by kernel_rfl) (by kernel_rfl) (by kernel_rfl) (fun _ _ _ h => h) (by decide) (Or.inl ⟨by rfl, ?hyc6⟩) hHeld ?_
      case hyc6 => (intro w hSw; go_simp; try with_reducible rfl)
      simp only [Act.put, List.setIfInBounds_toArray, List.set_cons_zero, List.set_cons_succ, List.getElem_toArray, List.getElem_cons_zero, List.getElem_cons_succ]
      refine G_all (rs := [7]) (by kernel_rfl) (by simp) ?_
      intro i hi; obtain rfl : i = 7 := by simpa using hi
      refine wpOp_run rfl (by rfl) ?_
      go_simp
      try refine ⟨fun e => absurd e (by decide), ?_⟩
      refine G_free _ _ _ _ (by kernel_rfl) ?_
      try simp only [Act.put, List.setIfInBounds_toArray, List.set_cons_zero, List.set_cons_succ, List.getElem_toArray, List.getElem_cons_zero, List.getElem_cons_succ]
      refine wpAny_done (by kernel_rfl) ?_ _
      refine NoPanic.normal ?_
      have b6 := hHeld.keeps B4.out
      have bN6 := hHeld.keeps BN4.out
      have Y := Lib.hid hHeld
      have hz6 : w.heap.size ≤ w6.heap.size := Nat.le_trans GW.out.size hHeld.size
      have KP := fun v (h : Ext w6 v) => block_all (h.keeps b6)
      have KN := fun v (h : Ext w6 v) => block_all (h.keeps bN6)
      have B6 := Lib.hid b6
      clear hHeld x6 hme b6 bN6
      cases hm : meq n.mark M with
      | true =>
        have HL := Lib.hid (show leadL P1 us n b = [⟨otherI P1, encN ⟨2, P1.v.n, n.mark, m0, []⟩⟩] by unfold leadL; rw [if_neg (by rw [HK1.out]; decide), HM.out, if_pos hm])
        go_upto_region 8 with fail
        refine wp_region_G 8 (fun v => Ext w6 v) (by kernel_rfl) fun wd hqd hHeld => ?_
        refine G_pure (i := 0) (u := ?vd0) rfl (by kernel_rfl) (by kernel_rfl) (by kernel_rfl) (fun _ _ _ h => h) (by decide) (Or.inl ⟨by rfl, ?hyd0⟩) hHeld ?_
        case hyd0 => (intro w hSw; go_simp; try with_reducible rfl)
        simp only [Act.put, List.setIfInBounds_toArray, List.set_cons_zero, List.set_cons_succ, List.getElem_toArray, List.getElem_cons_zero, List.getElem_cons_succ]
        refine G_pure (i := 1) (u := ?vd1) rfl (by kernel_rfl) (by kernel_rfl) (by kernel_rfl) (fun _ _ _ h => h) (by decide) (Or.inl ⟨by rfl, ?hyd1⟩) hHeld ?_
        case hyd1 => (intro w hSw; go_simp; try with_reducible rfl)
        simp only [Act.put, List.setIfInBounds_toArray, List.set_cons_zero, List.set_cons_succ, List.getElem_toArray, List.getElem_cons_zero, List.getElem_cons_succ]
        refine G_take (i := 2) (u := ?vd2) rfl (by kernel_rfl) (by kernel_rfl) (by kernel_rfl) (fun _ _ _ h => h) rfl (by kernel_rfl) (by decide) (by rfl) (Or.inl ⟨by rfl, ?hyd2⟩) hHeld ?_
        case hyd2 => (intro w hSw; go_simp; try with_reducible rfl)
        simp only [Act.put, List.setIfInBounds_toArray, List.set_cons_zero, List.set_cons_succ, List.getElem_toArray, List.getElem_cons_zero, List.getElem_cons_succ]
        refine G_pure (i := 3) (u := ?vd3) rfl (by kernel_rfl) (by kernel_rfl) (by kernel_rfl) (fun _ _ _ h => h) (by decide) (Or.inl ⟨by rfl, ?hyd3⟩) hHeld ?_
        case hyd3 => (intro w hSw; go_simp; try with_reducible rfl)
        simp only [Act.put, List.setIfInBounds_toArray, List.set_cons_zero, List.set_cons_succ, List.getElem_toArray, List.getElem_cons_zero, List.getElem_cons_succ]
        refine G_take (i := 4) (u := ?vd4) rfl (by kernel_rfl) (by kernel_rfl) (by kernel_rfl) (fun _ _ _ h => h) rfl (by kernel_rfl) (by decide) (by rfl) (Or.inl ⟨by rfl, ?hyd4⟩) hHeld ?_
        case hyd4 => (intro w hSw; go_simp; try with_reducible rfl)
        simp only [Act.put, List.setIfInBounds_toArray, List.set_cons_zero, List.set_cons_succ, List.getElem_toArray, List.getElem_cons_zero, List.getElem_cons_succ]
        refine G_pure (i := 5) (u := ?vd5) rfl (by kernel_rfl) (by kernel_rfl) (by kernel_rfl) (fun _ _ _ h => h) (by decide) (Or.inl ⟨by rfl, ?hyd5⟩) hHeld ?_
        case hyd5 => (intro w hSw; go_simp; try with_reducible rfl)
        simp only [Act.put, List.setIfInBounds_toArray, List.set_cons_zero, List.set_cons_succ, List.getElem_toArray, List.getElem_cons_zero, List.getElem_cons_succ]
        refine G_all (rs := [6]) (by kernel_rfl) (by simp) ?_
        intro i hi; obtain rfl : i = 6 := by simpa using hi
        refine wpOp_run rfl (by rfl) ?_
        go_simp
        refine Calls.mono (bkLetter _ _ (.slice none 0 0) P1 ⟨2, 0, n.mark, m0, []⟩ (IsB.nil _) hp1 ⟨(by show i64Ok 2; constructor <;> decide), (by show (0:Nat) < _; omega), hn.mark, m0Ok⟩ (by show (0:Nat) ≤ _; omega) ((HK.out.ext Y.out).ext hHeld)) ?_
        rintro e w7 ⟨v7, rfl, own7, x7⟩
        have own7 := ownsRow_base own7 (Nat.le_trans hz6 hHeld.size)
        obtain ⟨a7, c7, rfl⟩ := own_shape own7
        have hHeld := hHeld.trans x7
        first | refine ⟨fun _ => hHeld, ?_⟩ | refine ⟨hHeld, ?_⟩
        try simp only [Act.put, List.setIfInBounds_toArray, List.set_cons_zero, List.set_cons_succ, List.getElem_toArray, List.getElem_cons_zero, List.getElem_cons_succ]
        refine G_all (rs := [7]) (by kernel_rfl) (by simp) ?_
        intro i hi; obtain rfl : i = 7 := by simpa using hi
        refine wpOp_run rfl (by rfl) ?_
        refine wp_buildOne 49 (.tmp 58) rfl (ltV ⟨otherI P1, encN ⟨2, P1.v.n, n.mark, m0, []⟩⟩ (a7, c7)) (by rfl) (build_one _ 49 88 2 Tryd.underlying49 infoLt2 (by omega) (by omega) _ rfl) ?_
        have xb : Ext w7 (w7.alloc (.cells (ltV ⟨otherI P1, encN ⟨2, P1.v.n, n.mark, m0, []⟩⟩ (a7, c7)).toArray 88)) := (Ext.refl w7).alloc _
        have LO := lt_one (Nat.le_trans hz6 hHeld.size) (e := ⟨otherI P1, encN ⟨2, P1.v.n, n.mark, m0, []⟩⟩) (u := (a7, c7)) own7
        have hHeld := hHeld.trans xb
        first | refine ⟨fun _ => hHeld, ?_⟩ | refine ⟨hHeld, ?_⟩
        try simp only [Act.put, List.setIfInBounds_toArray, List.set_cons_zero, List.set_cons_succ, List.getElem_toArray, List.getElem_cons_zero, List.getElem_cons_succ]
        refine G_all (rs := [8]) (by kernel_rfl) (by simp) ?_
        intro i hi; obtain rfl : i = 8 := by simpa using hi
        refine wpOp_run rfl (by rfl) ?_
        go_simp
        try refine ⟨fun e => absurd e (by decide), ?_⟩
        refine G_free _ _ _ _ (by kernel_rfl) ?_
        try simp only [Act.put, List.setIfInBounds_toArray, List.set_cons_zero, List.set_cons_succ, List.getElem_toArray, List.getElem_cons_zero, List.getElem_cons_succ]
        refine wpAny_done (by kernel_rfl) ?_ _
        refine NoPanic.normal ?_
        go_wp2_with fail
        go_ret
        exact ⟨.slice (some ⟨w7.heap.size, 0, none⟩) 1 1, [(a7, c7)], rfl, by rw [HP.out]; exact hHeld.keeps B6.out, by rw [HP.out, HL.out]; exact LO, grown_trans GW.out (ext_grown (Y.out.trans hHeld) _)⟩
      | false =>
        have HL := Lib.hid (show leadL P1 us n b = behL P1 n.mark.2 us by unfold leadL; rw [if_neg (by rw [HK1.out]; decide), HM.out, hm, if_neg (by decide), if_pos (by rw [← HP1.out]; exact HH.out)])
        go_upto_region 10 with fail
        refine wp_region_G 7 (fun v => Ext w6 v) (by kernel_rfl) fun wd hqd hHeld => ?_
        refine G_pure (i := 0) (u := ?ve0) rfl (by kernel_rfl) (by kernel_rfl) (by kernel_rfl) (fun _ _ _ h => h) (by decide) (Or.inl ⟨by rfl, ?hye0⟩) hHeld ?_
        case hye0 => (intro w hSw; go_simp; try with_reducible rfl)
        simp only [Act.put, List.setIfInBounds_toArray, List.set_cons_zero, List.set_cons_succ, List.getElem_toArray, List.getElem_cons_zero, List.getElem_cons_succ]
        refine G_pure (i := 1) (u := ?ve1) rfl (by kernel_rfl) (by kernel_rfl) (by kernel_rfl) (fun _ _ _ h => h) (by decide) (Or.inl ⟨by rfl, ?hye1⟩) hHeld ?_
        case hye1 => (intro w hSw; go_simp; try with_reducible rfl)
        simp only [Act.put, List.setIfInBounds_toArray, List.set_cons_zero, List.set_cons_succ, List.getElem_toArray, List.getElem_cons_zero, List.getElem_cons_succ]
        refine G_take (i := 2) (u := ?ve2) rfl (by kernel_rfl) (by kernel_rfl) (by kernel_rfl) (fun _ _ _ h => h) rfl (by kernel_rfl) (by decide) (by rfl) (Or.inl ⟨by rfl, ?hye2⟩) hHeld ?_
        case hye2 => (intro w hSw; go_simp; try with_reducible rfl)
        simp only [Act.put, List.setIfInBounds_toArray, List.set_cons_zero, List.set_cons_succ, List.getElem_toArray, List.getElem_cons_zero, List.getElem_cons_succ]
        refine G_pure (i := 3) (u := ?ve3) rfl (by kernel_rfl) (by kernel_rfl) (by kernel_rfl) (fun _ _ _ h => h) (by decide) (Or.inl ⟨by rfl, ?hye3⟩) hHeld ?_
        case hye3 => (intro w hSw; go_simp; try with_reducible rfl)
        simp only [Act.put, List.setIfInBounds_toArray, List.set_cons_zero, List.set_cons_succ, List.getElem_toArray, List.getElem_cons_zero, List.getElem_cons_succ]
        refine G_pure (i := 4) (u := ?ve4) rfl (by kernel_rfl) (by kernel_rfl) (by kernel_rfl) (fun _ _ _ h => h) (by decide) (Or.inl ⟨by rfl, ?hye4⟩) hHeld ?_
        case hye4 => (intro w hSw; go_simp; try with_reducible rfl)
        simp only [Act.put, List.setIfInBounds_toArray, List.set_cons_zero, List.set_cons_succ, List.getElem_toArray, List.getElem_cons_zero, List.getElem_cons_succ]
        refine G_take (i := 5) (u := ?ve5) rfl (by kernel_rfl) (by kernel_rfl) (by kernel_rfl) (fun _ _ _ h => h) rfl (by kernel_rfl) (by decide) (by rfl) (Or.inl ⟨by rfl, ?hye5⟩) hHeld ?_
        case hye5 => (intro w hSw; go_simp; try with_reducible rfl)
        simp only [Act.put, List.setIfInBounds_toArray, List.set_cons_zero, List.set_cons_succ, List.getElem_toArray, List.getElem_cons_zero, List.getElem_cons_succ]
        refine G_all (rs := [6]) (by kernel_rfl) (by simp) ?_
        intro i hi; obtain rfl : i = 6 := by simpa using hi
        refine wpOp_run rfl (by rfl) ?_
        go_simp
        refine Calls.mono (bkBehind _ _ P1 us n.mark.2 HOK.out HBL.out ((IL.out.ext Y.out).ext hHeld) hp1 hn.mark.2 ((HK.out.ext Y.out).ext hHeld)) ?_
        rintro e w7 ⟨v7, u7, rfl, lo, x7⟩
        have lo := lo.base (Nat.le_trans hz6 hHeld.size)
        have hHeld := hHeld.trans x7
        first | refine ⟨fun _ => hHeld, ?_⟩ | refine ⟨hHeld, ?_⟩
        try simp only [Act.put, List.setIfInBounds_toArray, List.set_cons_zero, List.set_cons_succ, List.getElem_toArray, List.getElem_cons_zero, List.getElem_cons_succ]
        refine G_all (rs := [7]) (by kernel_rfl) (by simp) ?_
        intro i hi; obtain rfl : i = 7 := by simpa using hi
        refine wpOp_run rfl (by rfl) ?_
        go_simp
        try refine ⟨fun e => absurd e (by decide), ?_⟩
        refine G_free _ _ _ _ (by kernel_rfl) ?_
        try simp only [Act.put, List.setIfInBounds_toArray, List.set_cons_zero, List.set_cons_succ, List.getElem_toArray, List.getElem_cons_zero, List.getElem_cons_succ]
        refine wpAny_done (by kernel_rfl) ?_ _
        refine NoPanic.normal ?_
        go_wp2_with fail
        go_ret
        exact ⟨v7, u7, rfl, by rw [HP.out]; exact hHeld.keeps B6.out, by rw [HP.out, HL.out]; exact lo, grown_trans GW.out (ext_grown (Y.out.trans hHeld) _)⟩
    | false =>
      subst hH
      have HP := Lib.hid (show heardP p n = p by unfold heardP; rw [HH.out, Bool.false_and]; rfl)
      have G := ext_grown HX.out (some BQ)
      go_upto_region 7 with fail
      obtain ⟨W4, rfl⟩ : ∃ v, v = w5 := ⟨_, rfl⟩
      have b4 := bP
      have bN4 := bN
      clear bP bN hc hd

      have hlg : p.log = p.log := rfl
      have hp1 : PrOk p := hp
      have hot : otherI p = otherI p := rfl
      have KP := fun v (h : Ext W4 v) => block_all (h.keeps b4)
      have KN := fun v (h : Ext W4 v) => block_all (h.keeps bN4)
      have IL := Lib.hid (show IsLgU W4 (.slice ao p.log.length cap) p.log us by exact il.u)
      have hokP : ∀ e ∈ p.log, lgOk e := by exact hok
      have hblP : ∀ e ∈ p.log, e.b.length ≤ 50000 := by exact hbl
      obtain ⟨M, hM⟩ : ∃ M, lastM p = M := ⟨_, rfl⟩
      have HM := Lib.hid hM
      have B4 := Lib.hid b4
      have BN4 := Lib.hid bN4
      have HOK := Lib.hid hokP
      have HBL := Lib.hid hblP
      have HLG := Lib.hid hlg
      have HOT := Lib.hid hot
      have GW := Lib.hid G
      clear hM il b4 bN4 hokP hblP hlg hot G
      have hme := mkEql
      refine wp_region_G 7 (fun v => Ext W4 v) (by kernel_rfl) fun wd hqd hHeld => ?_
      refine G_pure (i := 0) (u := ?vg0) rfl (by kernel_rfl) (by kernel_rfl) (by kernel_rfl) (fun _ _ _ h => h) (by decide) (Or.inl ⟨by rfl, ?hyg0⟩) hHeld ?_
      case hyg0 => (intro w hSw; go_simp; try with_reducible rfl)
      simp only [Act.put, List.setIfInBounds_toArray, List.set_cons_zero, List.set_cons_succ, List.getElem_toArray, List.getElem_cons_zero, List.getElem_cons_succ]
      refine C_take (i := 1) (u := ?vg1) [6, 7] rfl (by kernel_rfl) (by kernel_rfl) (by kernel_rfl) (fun _ _ _ h => h) (by kernel_rfl) (by kernel_rfl) (by kernel_rfl) (by kernel_rfl) (Or.inl ⟨by rfl, ?hyg1⟩) hHeld ?_
      case hyg1 => (intro w hSw; go_simp; try with_reducible rfl)
      simp only [Act.put, List.setIfInBounds_toArray, List.set_cons_zero, List.set_cons_succ, List.getElem_toArray, List.getElem_cons_zero, List.getElem_cons_succ]
      refine G_pure (i := 2) (u := ?vg2) rfl (by kernel_rfl) (by kernel_rfl) (by kernel_rfl) (fun _ _ _ h => h) (by decide) (Or.inl ⟨by rfl, ?hyg2⟩) hHeld ?_
      case hyg2 => (intro w hSw; go_simp; try with_reducible rfl)
      simp only [Act.put, List.setIfInBounds_toArray, List.set_cons_zero, List.set_cons_succ, List.getElem_toArray, List.getElem_cons_zero, List.getElem_cons_succ]
      refine G_pure (i := 3) (u := ?vg3) rfl (by kernel_rfl) (by kernel_rfl) (by kernel_rfl) (fun _ _ _ h => h) (by decide) (Or.inl ⟨by rfl, ?hyg3⟩) hHeld ?_
      case hyg3 => (intro w hSw; go_simp; try with_reducible rfl)
      simp only [Act.put, List.setIfInBounds_toArray, List.set_cons_zero, List.set_cons_succ, List.getElem_toArray, List.getElem_cons_zero, List.getElem_cons_succ]
      refine C_take (i := 4) (u := ?vg4) [5, 7] rfl (by kernel_rfl) (by kernel_rfl) (by kernel_rfl) (fun _ _ _ h => h) (by kernel_rfl) (by kernel_rfl) (by kernel_rfl) (by kernel_rfl) (Or.inl ⟨by rfl, ?hyg4⟩) hHeld ?_
      case hyg4 => (intro w hSw; go_simp; try with_reducible rfl)
      simp only [Act.put, List.setIfInBounds_toArray, List.set_cons_zero, List.set_cons_succ, List.getElem_toArray, List.getElem_cons_zero, List.getElem_cons_succ]
      refine G_all (rs := [5]) (by kernel_rfl) (by simp) ?_
      intro i hi; obtain rfl : i = 5 := by simpa using hi
      refine wpOp_run rfl (by rfl) ?_
      go_simp
      refine Calls.mono (bkLast _ _ p ⟨HOK.out, us, IL.out.ext hHeld⟩) ?_
      rintro e w6 ⟨rfl, x6⟩
      rw [HM.out]
      have hHeld := hHeld.trans x6
      first | refine ⟨fun _ => hHeld, ?_⟩ | refine ⟨hHeld, ?_⟩
      try simp only [Act.put, List.setIfInBounds_toArray, List.set_cons_zero, List.set_cons_succ, List.getElem_toArray, List.getElem_cons_zero, List.getElem_cons_succ]
      refine G_pure (i := 6) (u := ?vg6) rfl (by kernel_rfl) (by kernel_rfl) (by kernel_rfl) (fun _ _ _ h => h) (by decide) (Or.inl ⟨by rfl, ?hyg6⟩) hHeld ?_
      case hyg6 => (intro w hSw; go_simp; try with_reducible rfl)
      simp only [Act.put, List.setIfInBounds_toArray, List.set_cons_zero, List.set_cons_succ, List.getElem_toArray, List.getElem_cons_zero, List.getElem_cons_succ]
      refine G_all (rs := [7]) (by kernel_rfl) (by simp) ?_
      intro i hi; obtain rfl : i = 7 := by simpa using hi
      refine wpOp_run rfl (by rfl) ?_
      go_simp
      try refine ⟨fun e => absurd e (by decide), ?_⟩
      refine G_free _ _ _ _ (by kernel_rfl) ?_
      try simp only [Act.put, List.setIfInBounds_toArray, List.set_cons_zero, List.set_cons_succ, List.getElem_toArray, List.getElem_cons_zero, List.getElem_cons_succ]
      refine wpAny_done (by kernel_rfl) ?_ _
      refine NoPanic.normal ?_
      have b6 := hHeld.keeps B4.out
      have bN6 := hHeld.keeps BN4.out
      have Y := Lib.hid hHeld
      have hz6 : w.heap.size ≤ w6.heap.size := Nat.le_trans GW.out.size hHeld.size
      have KP := fun v (h : Ext w6 v) => block_all (h.keeps b6)
      have KN := fun v (h : Ext w6 v) => block_all (h.keeps bN6)
      have B6 := Lib.hid b6
      clear hHeld x6 hme b6 bN6
      cases hm : meq n.mark M with
      | true =>
        have HL := Lib.hid (show leadL p us n b = [⟨otherI p, encN ⟨2, p.v.n, n.mark, m0, []⟩⟩] by unfold leadL; rw [if_neg (by rw [HK1.out]; decide), HM.out, if_pos hm])
        go_upto_region 8 with fail
        refine wp_region_G 8 (fun v => Ext w6 v) (by kernel_rfl) fun wd hqd hHeld => ?_
        refine G_pure (i := 0) (u := ?vh0) rfl (by kernel_rfl) (by kernel_rfl) (by kernel_rfl) (fun _ _ _ h => h) (by decide) (Or.inl ⟨by rfl, ?hyh0⟩) hHeld ?_
        case hyh0 => (intro w hSw; go_simp; try with_reducible rfl)
        simp only [Act.put, List.setIfInBounds_toArray, List.set_cons_zero, List.set_cons_succ, List.getElem_toArray, List.getElem_cons_zero, List.getElem_cons_succ]
        refine G_pure (i := 1) (u := ?vh1) rfl (by kernel_rfl) (by kernel_rfl) (by kernel_rfl) (fun _ _ _ h => h) (by decide) (Or.inl ⟨by rfl, ?hyh1⟩) hHeld ?_
        case hyh1 => (intro w hSw; go_simp; try with_reducible rfl)
        simp only [Act.put, List.setIfInBounds_toArray, List.set_cons_zero, List.set_cons_succ, List.getElem_toArray, List.getElem_cons_zero, List.getElem_cons_succ]
        refine G_take (i := 2) (u := ?vh2) rfl (by kernel_rfl) (by kernel_rfl) (by kernel_rfl) (fun _ _ _ h => h) rfl (by kernel_rfl) (by decide) (by rfl) (Or.inl ⟨by rfl, ?hyh2⟩) hHeld ?_
        case hyh2 => (intro w hSw; go_simp; try with_reducible rfl)
        simp only [Act.put, List.setIfInBounds_toArray, List.set_cons_zero, List.set_cons_succ, List.getElem_toArray, List.getElem_cons_zero, List.getElem_cons_succ]
        refine G_pure (i := 3) (u := ?vh3) rfl (by kernel_rfl) (by kernel_rfl) (by kernel_rfl) (fun _ _ _ h => h) (by decide) (Or.inl ⟨by rfl, ?hyh3⟩) hHeld ?_
        case hyh3 => (intro w hSw; go_simp; try with_reducible rfl)
        simp only [Act.put, List.setIfInBounds_toArray, List.set_cons_zero, List.set_cons_succ, List.getElem_toArray, List.getElem_cons_zero, List.getElem_cons_succ]
        refine G_take (i := 4) (u := ?vh4) rfl (by kernel_rfl) (by kernel_rfl) (by kernel_rfl) (fun _ _ _ h => h) rfl (by kernel_rfl) (by decide) (by rfl) (Or.inl ⟨by rfl, ?hyh4⟩) hHeld ?_
        case hyh4 => (intro w hSw; go_simp; try with_reducible rfl)
        simp only [Act.put, List.setIfInBounds_toArray, List.set_cons_zero, List.set_cons_succ, List.getElem_toArray, List.getElem_cons_zero, List.getElem_cons_succ]
        refine G_pure (i := 5) (u := ?vh5) rfl (by kernel_rfl) (by kernel_rfl) (by kernel_rfl) (fun _ _ _ h => h) (by decide) (Or.inl ⟨by rfl, ?hyh5⟩) hHeld ?_
        case hyh5 => (intro w hSw; go_simp; try with_reducible rfl)
        simp only [Act.put, List.setIfInBounds_toArray, List.set_cons_zero, List.set_cons_succ, List.getElem_toArray, List.getElem_cons_zero, List.getElem_cons_succ]
        refine G_all (rs := [6]) (by kernel_rfl) (by simp) ?_
        intro i hi; obtain rfl : i = 6 := by simpa using hi
        refine wpOp_run rfl (by rfl) ?_
        go_simp
        refine Calls.mono (bkLetter _ _ (.slice none 0 0) p ⟨2, 0, n.mark, m0, []⟩ (IsB.nil _) hp1 ⟨(by show i64Ok 2; constructor <;> decide), (by show (0:Nat) < _; omega), hn.mark, m0Ok⟩ (by show (0:Nat) ≤ _; omega) ((HK.out.ext Y.out).ext hHeld)) ?_
        rintro e w7 ⟨v7, rfl, own7, x7⟩
        have own7 := ownsRow_base own7 (Nat.le_trans hz6 hHeld.size)
        obtain ⟨a7, c7, rfl⟩ := own_shape own7
        have hHeld := hHeld.trans x7
        first | refine ⟨fun _ => hHeld, ?_⟩ | refine ⟨hHeld, ?_⟩
        try simp only [Act.put, List.setIfInBounds_toArray, List.set_cons_zero, List.set_cons_succ, List.getElem_toArray, List.getElem_cons_zero, List.getElem_cons_succ]
        refine G_all (rs := [7]) (by kernel_rfl) (by simp) ?_
        intro i hi; obtain rfl : i = 7 := by simpa using hi
        refine wpOp_run rfl (by rfl) ?_
        refine wp_buildOne 49 (.tmp 58) rfl (ltV ⟨otherI p, encN ⟨2, p.v.n, n.mark, m0, []⟩⟩ (a7, c7)) (by rfl) (build_one _ 49 88 2 Tryd.underlying49 infoLt2 (by omega) (by omega) _ rfl) ?_
        have xb : Ext w7 (w7.alloc (.cells (ltV ⟨otherI p, encN ⟨2, p.v.n, n.mark, m0, []⟩⟩ (a7, c7)).toArray 88)) := (Ext.refl w7).alloc _
        have LO := lt_one (Nat.le_trans hz6 hHeld.size) (e := ⟨otherI p, encN ⟨2, p.v.n, n.mark, m0, []⟩⟩) (u := (a7, c7)) own7
        have hHeld := hHeld.trans xb
        first | refine ⟨fun _ => hHeld, ?_⟩ | refine ⟨hHeld, ?_⟩
        try simp only [Act.put, List.setIfInBounds_toArray, List.set_cons_zero, List.set_cons_succ, List.getElem_toArray, List.getElem_cons_zero, List.getElem_cons_succ]
        refine G_all (rs := [8]) (by kernel_rfl) (by simp) ?_
        intro i hi; obtain rfl : i = 8 := by simpa using hi
        refine wpOp_run rfl (by rfl) ?_
        go_simp
        try refine ⟨fun e => absurd e (by decide), ?_⟩
        refine G_free _ _ _ _ (by kernel_rfl) ?_
        try simp only [Act.put, List.setIfInBounds_toArray, List.set_cons_zero, List.set_cons_succ, List.getElem_toArray, List.getElem_cons_zero, List.getElem_cons_succ]
        refine wpAny_done (by kernel_rfl) ?_ _
        refine NoPanic.normal ?_
        go_wp2_with fail
        go_ret
        exact ⟨.slice (some ⟨w7.heap.size, 0, none⟩) 1 1, [(a7, c7)], rfl, by rw [HP.out]; exact hHeld.keeps B6.out, by rw [HP.out, HL.out]; exact LO, grown_trans GW.out (ext_grown (Y.out.trans hHeld) _)⟩
      | false =>
        by_cases hl : b.length ≤ 40000
        · have HL := Lib.hid (show leadL p us n b = [⟨otherI p, encN ⟨4, p.v.n, M, m0, b⟩⟩] by unfold leadL; rw [if_neg (by rw [HK1.out]; decide), HM.out, hm, if_neg (by decide), HH.out, if_neg (by decide), if_pos hl])
          have hl' : (b.length : Int) ≤ 40000 := by omega
          have HMO := Lib.hid (show mkOk M by rw [← HM.out]; exact lastM_ok hp hok)
          have HB := Lib.hid (HB.out.ext Y.out)
          go_upto_region 12 with fail
          refine wp_region_G 11 (fun v => Ext w6 v) (by kernel_rfl) fun wd hqd hHeld => ?_
          refine G_pure (i := 0) (u := ?vf0) rfl (by kernel_rfl) (by kernel_rfl) (by kernel_rfl) (fun _ _ _ h => h) (by decide) (Or.inl ⟨by rfl, ?hyf0⟩) hHeld ?_
          case hyf0 => (intro w hSw; go_simp; try with_reducible rfl)
          simp only [Act.put, List.setIfInBounds_toArray, List.set_cons_zero, List.set_cons_succ, List.getElem_toArray, List.getElem_cons_zero, List.getElem_cons_succ]
          refine G_pure (i := 1) (u := ?vf1) rfl (by kernel_rfl) (by kernel_rfl) (by kernel_rfl) (fun _ _ _ h => h) (by decide) (Or.inl ⟨by rfl, ?hyf1⟩) hHeld ?_
          case hyf1 => (intro w hSw; go_simp; try with_reducible rfl)
          simp only [Act.put, List.setIfInBounds_toArray, List.set_cons_zero, List.set_cons_succ, List.getElem_toArray, List.getElem_cons_zero, List.getElem_cons_succ]
          refine G_take (i := 2) (u := ?vf2) rfl (by kernel_rfl) (by kernel_rfl) (by kernel_rfl) (fun _ _ _ h => h) rfl (by kernel_rfl) (by decide) (by rfl) (Or.inl ⟨by rfl, ?hyf2⟩) hHeld ?_
          case hyf2 => (intro w hSw; go_simp; try with_reducible rfl)
          simp only [Act.put, List.setIfInBounds_toArray, List.set_cons_zero, List.set_cons_succ, List.getElem_toArray, List.getElem_cons_zero, List.getElem_cons_succ]
          refine G_pure (i := 3) (u := ?vf3) rfl (by kernel_rfl) (by kernel_rfl) (by kernel_rfl) (fun _ _ _ h => h) (by decide) (Or.inl ⟨by rfl, ?hyf3⟩) hHeld ?_
          case hyf3 => (intro w hSw; go_simp; try with_reducible rfl)
          simp only [Act.put, List.setIfInBounds_toArray, List.set_cons_zero, List.set_cons_succ, List.getElem_toArray, List.getElem_cons_zero, List.getElem_cons_succ]
          refine G_pure (i := 4) (u := ?vf4) rfl (by kernel_rfl) (by kernel_rfl) (by kernel_rfl) (fun _ _ _ h => h) (by decide) (Or.inl ⟨by rfl, ?hyf4⟩) hHeld ?_
          case hyf4 => (intro w hSw; go_simp; try with_reducible rfl)
          simp only [Act.put, List.setIfInBounds_toArray, List.set_cons_zero, List.set_cons_succ, List.getElem_toArray, List.getElem_cons_zero, List.getElem_cons_succ]
          refine G_take (i := 5) (u := ?vf5) rfl (by kernel_rfl) (by kernel_rfl) (by kernel_rfl) (fun _ _ _ h => h) rfl (by kernel_rfl) (by decide) (by rfl) (Or.inl ⟨by rfl, ?hyf5⟩) hHeld ?_
          case hyf5 => (intro w hSw; go_simp; try with_reducible rfl)
          simp only [Act.put, List.setIfInBounds_toArray, List.set_cons_zero, List.set_cons_succ, List.getElem_toArray, List.getElem_cons_zero, List.getElem_cons_succ]
          refine G_pure (i := 7) (u := ?vf7) rfl (by kernel_rfl) (by kernel_rfl) (by kernel_rfl) (fun _ _ _ h => h) (by decide) (Or.inl ⟨by rfl, ?hyf7⟩) hHeld ?_
          case hyf7 => (intro w hSw; go_simp; try with_reducible rfl)
          simp only [Act.put, List.setIfInBounds_toArray, List.set_cons_zero, List.set_cons_succ, List.getElem_toArray, List.getElem_cons_zero, List.getElem_cons_succ]
          refine G_all (rs := [6]) (by kernel_rfl) (by simp) ?_
          intro i hi; obtain rfl : i = 6 := by simpa using hi
          refine wpOp_run rfl (by rfl) ?_
          go_simp
          refine Calls.mono (bkLast _ _ p ⟨HOK.out, us, (IL.out.ext Y.out).ext hHeld⟩) ?_
          rintro e w7 ⟨rfl, x7⟩
          rw [HM.out]
          have hHeld := hHeld.trans x7
          first | refine ⟨fun _ => hHeld, ?_⟩ | refine ⟨hHeld, ?_⟩
          try simp only [Act.put, List.setIfInBounds_toArray, List.set_cons_zero, List.set_cons_succ, List.getElem_toArray, List.getElem_cons_zero, List.getElem_cons_succ]
          refine G_pure (i := 8) (u := ?vf8) rfl (by kernel_rfl) (by kernel_rfl) (by kernel_rfl) (fun _ _ _ h => h) (by decide) (Or.inl ⟨by rfl, ?hyf8⟩) hHeld ?_
          case hyf8 => (intro w hSw; go_simp; try with_reducible rfl)
          simp only [Act.put, List.setIfInBounds_toArray, List.set_cons_zero, List.set_cons_succ, List.getElem_toArray, List.getElem_cons_zero, List.getElem_cons_succ]
          refine G_all (rs := [9]) (by kernel_rfl) (by simp) ?_
          intro i hi; obtain rfl : i = 9 := by simpa using hi
          refine wpOp_run rfl (by rfl) ?_
          go_simp
          refine Calls.mono (bkLetter _ _ _ p ⟨4, 0, M, m0, b⟩ (HB.out.ext hHeld) hp1 ⟨(by show i64Ok 4; constructor <;> decide), (by show (0:Nat) < _; omega), HMO.out, m0Ok⟩ (by show b.length ≤ _; omega) ((HK.out.ext Y.out).ext hHeld)) ?_
          rintro e w8 ⟨v8, rfl, own8, x8⟩
          have own8 := ownsRow_base own8 (Nat.le_trans hz6 hHeld.size)
          obtain ⟨a8, c8, rfl⟩ := own_shape own8
          have hHeld := hHeld.trans x8
          first | refine ⟨fun _ => hHeld, ?_⟩ | refine ⟨hHeld, ?_⟩
          try simp only [Act.put, List.setIfInBounds_toArray, List.set_cons_zero, List.set_cons_succ, List.getElem_toArray, List.getElem_cons_zero, List.getElem_cons_succ]
          refine G_all (rs := [10]) (by kernel_rfl) (by simp) ?_
          intro i hi; obtain rfl : i = 10 := by simpa using hi
          refine wpOp_run rfl (by rfl) ?_
          refine wp_buildOne 49 (.tmp 82) rfl (ltV ⟨otherI p, encN ⟨4, p.v.n, M, m0, b⟩⟩ (a8, c8)) (by rfl) (build_one _ 49 88 2 Tryd.underlying49 infoLt2 (by omega) (by omega) _ rfl) ?_
          have xb : Ext w8 (w8.alloc (.cells (ltV ⟨otherI p, encN ⟨4, p.v.n, M, m0, b⟩⟩ (a8, c8)).toArray 88)) := (Ext.refl w8).alloc _
          have LO := lt_one (Nat.le_trans hz6 hHeld.size) (e := ⟨otherI p, encN ⟨4, p.v.n, M, m0, b⟩⟩) (u := (a8, c8)) own8
          have hHeld := hHeld.trans xb
          first | refine ⟨fun _ => hHeld, ?_⟩ | refine ⟨hHeld, ?_⟩
          try simp only [Act.put, List.setIfInBounds_toArray, List.set_cons_zero, List.set_cons_succ, List.getElem_toArray, List.getElem_cons_zero, List.getElem_cons_succ]
          refine G_all (rs := [11]) (by kernel_rfl) (by simp) ?_
          intro i hi; obtain rfl : i = 11 := by simpa using hi
          refine wpOp_run rfl (by rfl) ?_
          go_simp
          try refine ⟨fun e => absurd e (by decide), ?_⟩
          refine G_free _ _ _ _ (by kernel_rfl) ?_
          try simp only [Act.put, List.setIfInBounds_toArray, List.set_cons_zero, List.set_cons_succ, List.getElem_toArray, List.getElem_cons_zero, List.getElem_cons_succ]
          refine wpAny_done (by kernel_rfl) ?_ _
          refine NoPanic.normal ?_
          go_wp2_with fail
          go_ret
          exact ⟨.slice (some ⟨w8.heap.size, 0, none⟩) 1 1, [(a8, c8)], rfl, by rw [HP.out]; exact hHeld.keeps B6.out, by rw [HP.out, HL.out]; exact LO, grown_trans GW.out (ext_grown (Y.out.trans hHeld) _)⟩
        · have HL := Lib.hid (show leadL p us n b = [] by unfold leadL; rw [if_neg (by rw [HK1.out]; decide), HM.out, hm, if_neg (by decide), HH.out, if_neg (by decide), if_neg hl])
          have hl' : ¬ (b.length : Int) ≤ 40000 := by omega
          go_wp2_with fail
          go_ret
          exact ⟨.slice none 0 0, [], rfl, by rw [HP.out]; exact B6.out, by rw [HP.out, HL.out]; exact LtOwn.nil _ _, grown_trans GW.out (ext_grown Y.out _)⟩
end Go.Proofs.YtkcddcomjbihgaaDoor
