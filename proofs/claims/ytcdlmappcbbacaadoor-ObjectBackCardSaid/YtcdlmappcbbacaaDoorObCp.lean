/- The walk of the statements' 'copied': an object in memory of its own. -/
import Derived.Test.YtcdlmappcbbacaaDoorObJ
import Derived.Test.YtcdlmappcbbacaaDoorRegG
import Derived.Test.YtcdlmappcbbacaaDoorObL
import Derived.Lib.SlFresh
namespace Go.Proofs.YtcdlmappcbbacaaDoor
open Go.RowKit
set_option linter.unusedVariables false
set_option linter.unusedSimpArgs false

/-- 'append([]T{}, x...)' at one operation of a drawn region: nothing that was there turns. -/
theorem wp_app0O {P : Program} {t e : TypeId} {z : Value} {size bytes : Nat} (T : ETy P t e z size bytes) {w : World} {o : Oper} {a : Act} {K : Act → World → Prop} {Q : Exit → Act → World → Prop} (s x : Operand)
    (ho : o.op = .call { callee := .builtin .append, args := #[s, x], argTypes := #[t, t] })
    (g : Nat) (hg : w.heap[g]? = some (.cells #[] e (0, 0))) (hs : a.eval s = .slice (some ⟨g, 0, none⟩) 0 0)
    (u : Value) (m : Nat) (news : List Value) (hu : IsSl w u size m news) (hx : a.eval x = u) (h1 : ∀ c ∈ news, c.oneCell' = true)
    (hlim : m * bytes ≤ 140737488355328) (hmax : m ≤ 9223372036854775807)
    (h : ∀ v' w', IsSl w' v' size m news → Ext w w' → (∀ R, R ≠ g → R < w.heap.size → Off v' R) → K (a.put o.dst v') w') : o.wp P a w K Q := by
  obtain ⟨i, hi, hz, hs1, hb1⟩ := T.info
  obtain ⟨hlen, ao, cap, rfl, b1, m1, z1, g1⟩ := hu
  have same : (m = 0) → (Builtin.append_ #[t, t] o.type #[.slice (some ⟨g, 0, none⟩) 0 0, .slice ao m cap]).run P w = .ok (.slice (some ⟨g, 0, none⟩) 0 0) w → o.wp P a w K Q := fun h0 hr => by
    subst h0
    obtain rfl : news = [] := List.eq_nil_of_length_eq_zero (by simpa using hlen)
    refine Lib.wp_append_run_sl w s x t ho _ _ hs hx hr (h _ _ ?_ (Ext.refl w) ?_)
    · exact ⟨by simp, _, _, rfl, Nat.le_refl _, by omega, (fun h => by cases h), fun i hi => by simp at hi⟩
    · intro R hR hlt b off sp n c q
      simp only [Value.slice.injEq, Option.some.injEq, Addr.mk.injEq] at q
      omega
  cases ao with
  | none =>
    obtain rfl := z1 rfl
    obtain rfl : m = 0 := by omega
    have hown : w.ownsRow g e size (.slice (some ⟨g, 0, none⟩) 0 0) 0 [] := ⟨by simp, .inr ⟨g, 0, #[], rfl, Nat.le_refl _, hg, Nat.le_refl _, by decide, by simp, by simp⟩⟩
    exact same rfl (run_append_owned_none (P := P) (w := w) g t o.type e i size T.und hi _ 0 [] hown)
  | some ad =>
    by_cases h0 : m = 0
    · have hnil : news = [] := List.eq_nil_of_length_eq_zero (by rw [hlen, h0]; simp)
      subst hnil h0
      have hr := run_append_room (P := P) w t o.type e i T.und hi g 0 0 #[] hg ad 0 cap [] (by simp) (by intro j u hj; simp at hj) (by simp) (by omega) (by simp)
      simp only [Nat.zero_mul, List.take_nil, List.append_nil, List.length_nil, Nat.add_zero, List.drop_nil] at hr
      have e1 : w.setRow g #[] = w := setRow_self w g #[] e (0, 0) hg
      refine same rfl ?_
      rw [hr]
      simp [e1]
    · have hr := run_append_grow (P := P) w t o.type e i z T.und hi hz ⟨g, 0, none⟩ 0 0 [] (by simp) (by intro j v hj; simp at hj) ad m cap news (by rw [hs1]; exact hlen) (lies_news g1 rfl) (by omega) (by omega) (growslice_fits (by omega) (by rw [hb1]; simpa using hlim))
      simp only [Nat.zero_add] at hr
      have hge := grownCap_ge w m 0 e
      have hcm : grownCap w m 0 e ≤ maxLen := grownCap_le_maxLen w m 0 e (by unfold maxLen; omega)
      generalize grownCap w m 0 e = cp at hr hge hcm
      refine Lib.wp_append_run_sl w s x t ho _ _ hs hx hr (h _ _ ?_ ?_ ?_)
      · refine ⟨hlen, _, _, rfl, hge, by unfold maxLen at hcm; omega, (fun h => by cases h), fun k hk => ⟨_, 0, rfl, ?_⟩⟩
        rw [Nat.zero_add]
        rw [show w.heap.size = w.drew.heap.size from rfl, block_cell (heap_alloc_new w.drew _)]
        rw [Array.getElem?_append_left (by simp; exact hk), Array.getElem?_append_right (by simp)]
        simp
      · exact ((Ext.refl w).drew).alloc _
      · intro R hR hlt b off sp n c q
        simp only [Value.slice.injEq, Option.some.injEq, Addr.mk.injEq] at q
        omega
theorem run_build0 (P : Program) (w : World) (t e : TypeId) (hu : P.underlying t = some (.slice e)) (hi : (P.info? e).isSome = true) : True := trivial

theorem ents_one (es : List EntL) : ∀ c ∈ es.flatMap entC, c.oneCell' = true := by
  intro c hc
  obtain ⟨e, _, he⟩ := List.mem_flatMap.1 hc
  exact ent_one e c he
theorem ids_one (es : List (List UInt8)) : ∀ c ∈ es.flatMap idC, c.oneCell' = true := by
  intro c hc
  obtain ⟨e, _, he⟩ := List.mem_flatMap.1 hc
  exact bc_one e c he

set_option maxHeartbeats 8000000 in
set_option maxRecDepth 100000 in
theorem lawCopied (w : World) (QA : Array Value) (vb ve vp : Value) (o : ObjL) (h : IsObj w QA vb ve vp o) (h10 : o.bytes.length ≤ 10000) (h2 : o.ents.length ≤ 200) (h3 : o.pars.length ≤ 200) :
    Calls Tryd.prog 8 #[.agg QA] w fun e w' => ∃ QB vb' ve' vp', e = .returned (.agg QB) ∧ IsObj w' QB vb' ve' vp' o ∧ Ext w w' := by
  obtain ⟨zE, tyE⟩ := tyEnt
  obtain ⟨zI, tyI⟩ := tyIds
  have ho := h.ok
  have hq := h.eq
  subst hq
  have b1 := blk_old (o := .cells (objC (.slice none 0 0) (.slice none 0 0) (.slice none 0 0) (zObj 0)).toArray 29) (heap_alloc_new w (.cells (objC vb ve vp o).toArray 29))
  have X1 : Ext w ((w.alloc (.cells (objC vb ve vp o).toArray 29)).alloc (.cells (objC (.slice none 0 0) (.slice none 0 0) (.slice none 0 0) (zObj 0)).toArray 29)) := ((Ext.refl w).alloc _).alloc _
  have HA := Lib.hid (h.ext X1)
  have hfit := h.info
  have hone := h.one
  clear h
  go_enter Tryd.func8, Tryd.ntmps8
  go_wp2_with fail
  have b2 := blk_new (w := w.alloc (.cells (objC vb ve vp o).toArray 29)) (b := w.heap.size + 1) (o := .cells (objC (.slice none 0 0) (.slice none 0 0) (.slice none 0 0) (zObj 0)).toArray 29) (by simp)
  change Code.wp _ _ _ _ ((w.alloc (.cells (objC vb ve vp o).toArray 29)).alloc (.cells (objC (.slice none 0 0) (.slice none 0 0) (.slice none 0 0) (zObj 0)).toArray 29))
  have hB1 : w.heap.size + 1 < ((w.alloc (.cells (objC vb ve vp o).toArray 29)).alloc (.cells (objC (.slice none 0 0) (.slice none 0 0) (.slice none 0 0) (zObj 0)).toArray 29)).heap.size := block_lt b2
  generalize (w.alloc (.cells (objC vb ve vp o).toArray 29)).alloc (.cells (objC (.slice none 0 0) (.slice none 0 0) (.slice none 0 0) (zObj 0)).toArray 29) = w1 at *
  generalize hG : w.heap.size = B1 at *
  have hat := obj_at b1 rfl ho
  have k1 := hat.c1
  have k2 := hat.c2
  have k4 := hat.c4
  clear hat
  refine wp_region_G 13 (fun v => Ext w1 v) (by kernel_rfl) fun wc hqd hHeld => ?_
  refine G_take (i := 1) (u := ?vc1) rfl (by kernel_rfl) (by kernel_rfl) (by kernel_rfl) (fun _ _ _ h => h) rfl (by kernel_rfl) (by decide) (by rfl) (Or.inl ⟨by rfl, ?hyc1⟩) hHeld ?_
  case hyc1 => (intro w hSw; go_simp; try with_reducible rfl)
  simp only [Act.put, List.setIfInBounds_toArray, List.set_cons_zero, List.set_cons_succ, List.getElem_toArray, List.getElem_cons_zero, List.getElem_cons_succ]
  refine G_take (i := 2) (u := ?vc2) rfl (by kernel_rfl) (by kernel_rfl) (by kernel_rfl) (fun _ _ _ h => h) rfl (by kernel_rfl) (by decide) (by rfl) (Or.inl ⟨by rfl, ?hyc2⟩) hHeld ?_
  case hyc2 => (intro w hSw; have k := hSw.cell k1; go_simp; try with_reducible rfl)
  simp only [Act.put, List.setIfInBounds_toArray, List.set_cons_zero, List.set_cons_succ, List.getElem_toArray, List.getElem_cons_zero, List.getElem_cons_succ]
  refine G_take (i := 5) (u := ?vc3) rfl (by kernel_rfl) (by kernel_rfl) (by kernel_rfl) (fun _ _ _ h => h) rfl (by kernel_rfl) (by decide) (by rfl) (Or.inl ⟨by rfl, ?hyc3⟩) hHeld ?_
  case hyc3 => (intro w hSw; go_simp; try with_reducible rfl)
  simp only [Act.put, List.setIfInBounds_toArray, List.set_cons_zero, List.set_cons_succ, List.getElem_toArray, List.getElem_cons_zero, List.getElem_cons_succ]
  refine G_take (i := 6) (u := ?vc4) rfl (by kernel_rfl) (by kernel_rfl) (by kernel_rfl) (fun _ _ _ h => h) rfl (by kernel_rfl) (by decide) (by rfl) (Or.inl ⟨by rfl, ?hyc4⟩) hHeld ?_
  case hyc4 => (intro w hSw; have k := hSw.cell k2; go_simp; try with_reducible rfl)
  simp only [Act.put, List.setIfInBounds_toArray, List.set_cons_zero, List.set_cons_succ, List.getElem_toArray, List.getElem_cons_zero, List.getElem_cons_succ]
  refine G_take (i := 9) (u := ?vc5) rfl (by kernel_rfl) (by kernel_rfl) (by kernel_rfl) (fun _ _ _ h => h) rfl (by kernel_rfl) (by decide) (by rfl) (Or.inl ⟨by rfl, ?hyc5⟩) hHeld ?_
  case hyc5 => (intro w hSw; go_simp; try with_reducible rfl)
  simp only [Act.put, List.setIfInBounds_toArray, List.set_cons_zero, List.set_cons_succ, List.getElem_toArray, List.getElem_cons_zero, List.getElem_cons_succ]
  refine G_take (i := 10) (u := ?vc6) rfl (by kernel_rfl) (by kernel_rfl) (by kernel_rfl) (fun _ _ _ h => h) rfl (by kernel_rfl) (by decide) (by rfl) (Or.inl ⟨by rfl, ?hyc6⟩) hHeld ?_
  case hyc6 => (intro w hSw; have k := hSw.cell k4; go_simp; try with_reducible rfl)
  simp only [Act.put, List.setIfInBounds_toArray, List.set_cons_zero, List.set_cons_succ, List.getElem_toArray, List.getElem_cons_zero, List.getElem_cons_succ]
  refine G_all (rs := [0, 4, 8]) (by kernel_rfl) (by simp) ?_
  intro i hi; have hi' : i = 0 ∨ i = 4 ∨ i = 8 := by simpa using hi
  clear hi; rcases hi' with rfl | rfl | rfl
  · refine wpOp_run rfl (by rfl) ?_
    go_simp
    have bA := heap_alloc_new wc (.cells #[] 5)
    have neA : B1 + 1 < wc.heap.size := by have := hHeld.size; omega
    have xn : Ext wc (wc.alloc (.cells #[] 5)) := (Ext.refl wc).alloc _
    have hHeld := hHeld.trans xn
    first | refine ⟨hHeld, ?_⟩ | refine ⟨fun _ => hHeld, ?_⟩
    try simp only [Act.put, List.setIfInBounds_toArray, List.set_cons_zero, List.set_cons_succ, List.getElem_toArray, List.getElem_cons_zero, List.getElem_cons_succ]
    generalize hgA : wc.heap.size = gA at *
    generalize wc.alloc (.cells #[] 5) = wn at *
    clear xn
    obtain ⟨wc, rfl⟩ : ∃ x, x = wn := ⟨_, rfl⟩
    refine G_all (rs := [3, 4, 8]) (by kernel_rfl) (by simp) ?_
    intro i hi; have hi' : i = 3 ∨ i = 4 ∨ i = 8 := by simpa using hi
    clear hi; rcases hi' with rfl | rfl | rfl
    · refine wpOp_run rfl (by rfl) ?_
      refine wp_app0O tyB (.tmp 3) (.tmp 5) rfl gA bA (by rfl) vb o.bytes.length (o.bytes.map bc) ((HA.out.ext hHeld).vb) (by rfl) (bc_one _) (by omega) (by omega) ?_
      intro uA wn iA xn offA
      have offA2 := offA (B1 + 1) (by omega) (by have := hHeld.size; omega)
      have offA := offA B1 (by omega) (by have := hHeld.size; omega)
      have hHeld := hHeld.trans xn
      first | refine ⟨hHeld, ?_⟩ | refine ⟨fun _ => hHeld, ?_⟩
      try simp only [Act.put, List.setIfInBounds_toArray, List.set_cons_zero, List.set_cons_succ, List.getElem_toArray, List.getElem_cons_zero, List.getElem_cons_succ]
      have bA := xn.keeps bA
      clear xn
      obtain ⟨wc, rfl⟩ : ∃ x, x = wn := ⟨_, rfl⟩
      refine G_take (i := 12) (u := ?vc7) rfl (by kernel_rfl) (by kernel_rfl) (by kernel_rfl) (fun _ _ _ h => h) rfl (by kernel_rfl) (by decide) (by rfl) (Or.inl ⟨by rfl, ?hyc7⟩) hHeld ?_
      case hyc7 => (intro w hSw; go_simp; try with_reducible rfl)
      simp only [Act.put, List.setIfInBounds_toArray, List.set_cons_zero, List.set_cons_succ, List.getElem_toArray, List.getElem_cons_zero, List.getElem_cons_succ]
      refine G_all (rs := [4, 8]) (by kernel_rfl) (by simp) ?_
      intro i hi; have hi' : i = 4 ∨ i = 8 := by simpa using hi
      clear hi; rcases hi' with rfl | rfl
      · refine wpOp_run rfl (by rfl) ?_
        go_simp
        have bB := heap_alloc_new wc (.cells #[] 49)
        have neB : B1 + 1 < wc.heap.size := by have := hHeld.size; omega
        have xn : Ext wc (wc.alloc (.cells #[] 49)) := (Ext.refl wc).alloc _
        have hHeld := hHeld.trans xn
        first | refine ⟨hHeld, ?_⟩ | refine ⟨fun _ => hHeld, ?_⟩
        try simp only [Act.put, List.setIfInBounds_toArray, List.set_cons_zero, List.set_cons_succ, List.getElem_toArray, List.getElem_cons_zero, List.getElem_cons_succ]
        generalize hgB : wc.heap.size = gB at *
        have iA := iA.ext xn
        generalize wc.alloc (.cells #[] 49) = wn at *
        clear xn
        obtain ⟨wc, rfl⟩ : ∃ x, x = wn := ⟨_, rfl⟩
        refine G_all (rs := [7, 8]) (by kernel_rfl) (by simp) ?_
        intro i hi; have hi' : i = 7 ∨ i = 8 := by simpa using hi
        clear hi; rcases hi' with rfl | rfl
        · refine wpOp_run rfl (by rfl) ?_
          refine wp_app0O tyE (.tmp 7) (.tmp 9) rfl gB bB (by rfl) ve o.ents.length (o.ents.flatMap entC) ((HA.out.ext hHeld).ve) (by rfl) (ents_one _) (by omega) (by omega) ?_
          intro uB wn iB xn offB
          have offB2 := offB (B1 + 1) (by omega) (by have := hHeld.size; omega)
          have offB := offB B1 (by omega) (by have := hHeld.size; omega)
          have hHeld := hHeld.trans xn
          first | refine ⟨hHeld, ?_⟩ | refine ⟨fun _ => hHeld, ?_⟩
          try simp only [Act.put, List.setIfInBounds_toArray, List.set_cons_zero, List.set_cons_succ, List.getElem_toArray, List.getElem_cons_zero, List.getElem_cons_succ]
          have iA := iA.ext xn
          have bB := xn.keeps bB
          clear xn
          obtain ⟨wc, rfl⟩ : ∃ x, x = wn := ⟨_, rfl⟩
          refine G_all (rs := [8]) (by kernel_rfl) (by simp) ?_
          intro i hi; obtain rfl : i = 8 := by simpa using hi
          refine wpOp_run rfl (by rfl) ?_
          go_simp
          have bC := heap_alloc_new wc (.cells #[] 25)
          have neC : B1 + 1 < wc.heap.size := by have := hHeld.size; omega
          have xn : Ext wc (wc.alloc (.cells #[] 25)) := (Ext.refl wc).alloc _
          have hHeld := hHeld.trans xn
          first | refine ⟨hHeld, ?_⟩ | refine ⟨fun _ => hHeld, ?_⟩
          try simp only [Act.put, List.setIfInBounds_toArray, List.set_cons_zero, List.set_cons_succ, List.getElem_toArray, List.getElem_cons_zero, List.getElem_cons_succ]
          generalize hgC : wc.heap.size = gC at *
          have iA := iA.ext xn
          have iB := iB.ext xn
          generalize wc.alloc (.cells #[] 25) = wn at *
          clear xn
          obtain ⟨wc, rfl⟩ : ∃ x, x = wn := ⟨_, rfl⟩
          refine G_all (rs := [11]) (by kernel_rfl) (by simp) ?_
          intro i hi; obtain rfl : i = 11 := by simpa using hi
          refine wpOp_run rfl (by rfl) ?_
          refine wp_app0O tyI (.tmp 11) (.tmp 13) rfl gC bC (by rfl) vp o.pars.length (o.pars.flatMap idC) ((HA.out.ext hHeld).vp) (by rfl) (ids_one _) (by omega) (by omega) ?_
          intro uC wn iC xn offC
          have offC2 := offC (B1 + 1) (by omega) (by have := hHeld.size; omega)
          have offC := offC B1 (by omega) (by have := hHeld.size; omega)
          have hHeld := hHeld.trans xn
          first | refine ⟨hHeld, ?_⟩ | refine ⟨fun _ => hHeld, ?_⟩
          try simp only [Act.put, List.setIfInBounds_toArray, List.set_cons_zero, List.set_cons_succ, List.getElem_toArray, List.getElem_cons_zero, List.getElem_cons_succ]
          have iA := iA.ext xn
          have iB := iB.ext xn
          have bC := xn.keeps bC
          clear xn
          obtain ⟨wc, rfl⟩ : ∃ x, x = wn := ⟨_, rfl⟩
          have bT := hHeld.keeps b1
          have bB := hHeld.keeps b2
          have X := X1.trans hHeld
          refine G_all (rs := [13]) (by kernel_rfl) (by simp) ?_
          intro i hi; obtain rfl : i = 13 := by simpa using hi
          refine wpOp_run rfl (by rfl) ?_
          obtain ⟨auA, kuA, rfl⟩ := sl_len iA
          have cc := (obj_at bT rfl ho).c1
          have ff := block_free bT 1
          have gr := grown_setCell wc B1 1 (.slice auA o.bytes.length kuA)
          have bN := block_setCell bT (i := 1) (.slice auA o.bytes.length kuA)
          rw [obj_set1 _ _ _ _ o o.bytes] at bN
          have iA := IsSl.other iA gr offA
          have iB := IsSl.other iB gr offB
          have iC := IsSl.other iC gr offC
          have X := X.grown gr (fun k hk => by simp at hk; omega)
          have bB := grown_other gr bB (by omega)
          go_simp
          try refine ⟨fun e => absurd e (by decide), ?_⟩
          refine G_free _ _ _ _ (by rfl) ?_
          try simp only [Act.put, List.setIfInBounds_toArray, List.set_cons_zero, List.set_cons_succ, List.getElem_toArray, List.getElem_cons_zero, List.getElem_cons_succ]
          generalize wc.setCell ⟨B1, 1, none⟩ (.slice auA o.bytes.length kuA) = wn at *
          clear cc ff gr bT
          have bT : wn.heap[B1]? = some (.cells (objC (.slice auA o.bytes.length kuA) ve vp o).toArray 29 (0, 0)) := bN
          clear bN
          obtain ⟨wc, rfl⟩ : ∃ x, x = wn := ⟨_, rfl⟩
          refine wpAny_take (i := 14) (v := ?vc8) rfl (by kernel_rfl) (by kernel_rfl) (by kernel_rfl) (fun _ _ _ h => h) (Or.inl ⟨by rfl, ?hyc8⟩) ?_
          case hyc8 => (intro w; go_simp; try with_reducible rfl)
          simp only [Act.put, List.setIfInBounds_toArray, List.set_cons_zero, List.set_cons_succ, List.getElem_toArray, List.getElem_cons_zero, List.getElem_cons_succ]
          refine wpAny_all (rs := [15]) (by kernel_rfl) (by simp) ?_
          intro i hi; obtain rfl : i = 15 := by simpa using hi
          refine wpOp_run rfl (by rfl) ?_
          obtain ⟨auB, kuB, rfl⟩ := sl_len iB
          have cc := (obj_at bT rfl ho).c2
          have ff := block_free bT 2
          have gr := grown_setCell wc B1 2 (.slice auB o.ents.length kuB)
          have bN := block_setCell bT (i := 2) (.slice auB o.ents.length kuB)
          rw [obj_set2 _ _ _ _ o o.ents] at bN
          have iA := IsSl.other iA gr offA
          have iB := IsSl.other iB gr offB
          have iC := IsSl.other iC gr offC
          have X := X.grown gr (fun k hk => by simp at hk; omega)
          have bB := grown_other gr bB (by omega)
          go_simp
          try simp only [Act.put, List.setIfInBounds_toArray, List.set_cons_zero, List.set_cons_succ, List.getElem_toArray, List.getElem_cons_zero, List.getElem_cons_succ]
          generalize wc.setCell ⟨B1, 2, none⟩ (.slice auB o.ents.length kuB) = wn at *
          clear cc ff gr bT
          have bT : wn.heap[B1]? = some (.cells (objC (.slice auA o.bytes.length kuA) (.slice auB o.ents.length kuB) vp o).toArray 29 (0, 0)) := bN
          clear bN
          obtain ⟨wc, rfl⟩ : ∃ x, x = wn := ⟨_, rfl⟩
          refine wpAny_take (i := 16) (v := ?vc9) rfl (by kernel_rfl) (by kernel_rfl) (by kernel_rfl) (fun _ _ _ h => h) (Or.inl ⟨by rfl, ?hyc9⟩) ?_
          case hyc9 => (intro w; go_simp; try with_reducible rfl)
          simp only [Act.put, List.setIfInBounds_toArray, List.set_cons_zero, List.set_cons_succ, List.getElem_toArray, List.getElem_cons_zero, List.getElem_cons_succ]
          refine wpAny_all (rs := [17]) (by kernel_rfl) (by simp) ?_
          intro i hi; obtain rfl : i = 17 := by simpa using hi
          refine wpOp_run rfl (by rfl) ?_
          obtain ⟨auC, kuC, rfl⟩ := sl_len iC
          have cc := (obj_at bT rfl ho).c4
          have ff := block_free bT 35
          have gr := grown_setCell wc B1 35 (.slice auC o.pars.length kuC)
          have bN := block_setCell bT (i := 35) (.slice auC o.pars.length kuC)
          rw [obj_set35 _ _ _ _ o o.pars ho.tree] at bN
          have iA := IsSl.other iA gr offA
          have iB := IsSl.other iB gr offB
          have iC := IsSl.other iC gr offC
          have X := X.grown gr (fun k hk => by simp at hk; omega)
          have bB := grown_other gr bB (by omega)
          go_simp
          try simp only [Act.put, List.setIfInBounds_toArray, List.set_cons_zero, List.set_cons_succ, List.getElem_toArray, List.getElem_cons_zero, List.getElem_cons_succ]
          generalize wc.setCell ⟨B1, 35, none⟩ (.slice auC o.pars.length kuC) = wn at *
          clear cc ff gr bT
          have bT : wn.heap[B1]? = some (.cells (objC (.slice auA o.bytes.length kuA) (.slice auB o.ents.length kuB) (.slice auC o.pars.length kuC) o).toArray 29 (0, 0)) := bN
          clear bN
          obtain ⟨wc, rfl⟩ : ∃ x, x = wn := ⟨_, rfl⟩
          refine wpAny_done (by kernel_rfl) ?_ _
          refine NoPanic.normal ?_
          have hO : IsObj wc (objC (.slice auA o.bytes.length kuA) (.slice auB o.ents.length kuB) (.slice auC o.pars.length kuC) o).toArray (.slice auA o.bytes.length kuA) (.slice auB o.ents.length kuB) (.slice auC o.pars.length kuC) o := ⟨rfl, ho, iA, iB, iC⟩
          have hfitO := hO.info
          have honeO := hO.one
          have hszO := hO.size
          have offA2 := offA2
          have hlast := hO
          clear hO iA iB iC
          generalize hQB : (objC (.slice auA o.bytes.length kuA) (.slice auB o.ents.length kuB) (.slice auC o.pars.length kuC) o).toArray = QB at *
          go_wp2_with (first
            | ((with_reducible refine at_load 29 (.tmp 1) ?_); refine wpl_load (by rfl) 29 (.tmp 1) rfl B1 (by rfl) 29 QB (0, 0) _ bT Tryd.underlying29 rfl hfitO ?_)
            | ((with_reducible refine at_store 29 (.tmp 2) (.tmp 18) ?_); refine wpl_store (by rfl) 29 (.tmp 2) (.tmp 18) rfl (B1 + 1) QB (by rfl) (by rfl) 29 _ bB hfitO (by rw [hszO]; rfl) honeO ?_))
          have hfin : (wc.setRow (B1 + 1) QB).heap[B1 + 1]? = some (.cells QB 29 (0, 0)) := setRow_heap _ _ _ _ _ _ bB
          refine bodyPost_ret (results_cell_row rfl _ _ (B1 + 1) _ _ _ _ (by rfl) hfin Tryd.underlying29 rfl hfitO) rfl ⟨QB, (.slice auA o.bytes.length kuA), (.slice auB o.ents.length kuB), (.slice auC o.pars.length kuC), rfl, ?_, X.grown grown_setRow' (fun k hk => by simp at hk; omega)⟩
          exact ⟨hlast.eq, hlast.ok, IsSl.other hlast.vb grown_setRow' offA2, IsSl.other hlast.ve grown_setRow' offB2, IsSl.other hlast.vp grown_setRow' offC2⟩
        · refine wpOp_run rfl (by rfl) ?_
          go_simp
          have bC := heap_alloc_new wc (.cells #[] 25)
          have neC : B1 + 1 < wc.heap.size := by have := hHeld.size; omega
          have xn : Ext wc (wc.alloc (.cells #[] 25)) := (Ext.refl wc).alloc _
          have hHeld := hHeld.trans xn
          first | refine ⟨hHeld, ?_⟩ | refine ⟨fun _ => hHeld, ?_⟩
          try simp only [Act.put, List.setIfInBounds_toArray, List.set_cons_zero, List.set_cons_succ, List.getElem_toArray, List.getElem_cons_zero, List.getElem_cons_succ]
          generalize hgC : wc.heap.size = gC at *
          have iA := iA.ext xn
          have bB := xn.keeps bB
          generalize wc.alloc (.cells #[] 25) = wn at *
          clear xn
          obtain ⟨wc, rfl⟩ : ∃ x, x = wn := ⟨_, rfl⟩
          refine G_all (rs := [7]) (by kernel_rfl) (by simp) ?_
          intro i hi; obtain rfl : i = 7 := by simpa using hi
          refine wpOp_run rfl (by rfl) ?_
          refine wp_app0O tyE (.tmp 7) (.tmp 9) rfl gB bB (by rfl) ve o.ents.length (o.ents.flatMap entC) ((HA.out.ext hHeld).ve) (by rfl) (ents_one _) (by omega) (by omega) ?_
          intro uB wn iB xn offB
          have offB2 := offB (B1 + 1) (by omega) (by have := hHeld.size; omega)
          have offB := offB B1 (by omega) (by have := hHeld.size; omega)
          have hHeld := hHeld.trans xn
          first | refine ⟨hHeld, ?_⟩ | refine ⟨fun _ => hHeld, ?_⟩
          try simp only [Act.put, List.setIfInBounds_toArray, List.set_cons_zero, List.set_cons_succ, List.getElem_toArray, List.getElem_cons_zero, List.getElem_cons_succ]
          have iA := iA.ext xn
          have bB := xn.keeps bB
          have bC := xn.keeps bC
          clear xn
          obtain ⟨wc, rfl⟩ : ∃ x, x = wn := ⟨_, rfl⟩
          refine G_all (rs := [11]) (by kernel_rfl) (by simp) ?_
          intro i hi; obtain rfl : i = 11 := by simpa using hi
          refine wpOp_run rfl (by rfl) ?_
          refine wp_app0O tyI (.tmp 11) (.tmp 13) rfl gC bC (by rfl) vp o.pars.length (o.pars.flatMap idC) ((HA.out.ext hHeld).vp) (by rfl) (ids_one _) (by omega) (by omega) ?_
          intro uC wn iC xn offC
          have offC2 := offC (B1 + 1) (by omega) (by have := hHeld.size; omega)
          have offC := offC B1 (by omega) (by have := hHeld.size; omega)
          have hHeld := hHeld.trans xn
          first | refine ⟨hHeld, ?_⟩ | refine ⟨fun _ => hHeld, ?_⟩
          try simp only [Act.put, List.setIfInBounds_toArray, List.set_cons_zero, List.set_cons_succ, List.getElem_toArray, List.getElem_cons_zero, List.getElem_cons_succ]
          have iA := iA.ext xn
          have bC := xn.keeps bC
          have iB := iB.ext xn
          clear xn
          obtain ⟨wc, rfl⟩ : ∃ x, x = wn := ⟨_, rfl⟩
          have bT := hHeld.keeps b1
          have bB := hHeld.keeps b2
          have X := X1.trans hHeld
          refine G_all (rs := [13]) (by kernel_rfl) (by simp) ?_
          intro i hi; obtain rfl : i = 13 := by simpa using hi
          refine wpOp_run rfl (by rfl) ?_
          obtain ⟨auA, kuA, rfl⟩ := sl_len iA
          have cc := (obj_at bT rfl ho).c1
          have ff := block_free bT 1
          have gr := grown_setCell wc B1 1 (.slice auA o.bytes.length kuA)
          have bN := block_setCell bT (i := 1) (.slice auA o.bytes.length kuA)
          rw [obj_set1 _ _ _ _ o o.bytes] at bN
          have iA := IsSl.other iA gr offA
          have iB := IsSl.other iB gr offB
          have iC := IsSl.other iC gr offC
          have X := X.grown gr (fun k hk => by simp at hk; omega)
          have bB := grown_other gr bB (by omega)
          go_simp
          try refine ⟨fun e => absurd e (by decide), ?_⟩
          refine G_free _ _ _ _ (by rfl) ?_
          try simp only [Act.put, List.setIfInBounds_toArray, List.set_cons_zero, List.set_cons_succ, List.getElem_toArray, List.getElem_cons_zero, List.getElem_cons_succ]
          generalize wc.setCell ⟨B1, 1, none⟩ (.slice auA o.bytes.length kuA) = wn at *
          clear cc ff gr bT
          have bT : wn.heap[B1]? = some (.cells (objC (.slice auA o.bytes.length kuA) ve vp o).toArray 29 (0, 0)) := bN
          clear bN
          obtain ⟨wc, rfl⟩ : ∃ x, x = wn := ⟨_, rfl⟩
          refine wpAny_take (i := 14) (v := ?vc10) rfl (by kernel_rfl) (by kernel_rfl) (by kernel_rfl) (fun _ _ _ h => h) (Or.inl ⟨by rfl, ?hyc10⟩) ?_
          case hyc10 => (intro w; go_simp; try with_reducible rfl)
          simp only [Act.put, List.setIfInBounds_toArray, List.set_cons_zero, List.set_cons_succ, List.getElem_toArray, List.getElem_cons_zero, List.getElem_cons_succ]
          refine wpAny_all (rs := [15]) (by kernel_rfl) (by simp) ?_
          intro i hi; obtain rfl : i = 15 := by simpa using hi
          refine wpOp_run rfl (by rfl) ?_
          obtain ⟨auB, kuB, rfl⟩ := sl_len iB
          have cc := (obj_at bT rfl ho).c2
          have ff := block_free bT 2
          have gr := grown_setCell wc B1 2 (.slice auB o.ents.length kuB)
          have bN := block_setCell bT (i := 2) (.slice auB o.ents.length kuB)
          rw [obj_set2 _ _ _ _ o o.ents] at bN
          have iA := IsSl.other iA gr offA
          have iB := IsSl.other iB gr offB
          have iC := IsSl.other iC gr offC
          have X := X.grown gr (fun k hk => by simp at hk; omega)
          have bB := grown_other gr bB (by omega)
          go_simp
          try simp only [Act.put, List.setIfInBounds_toArray, List.set_cons_zero, List.set_cons_succ, List.getElem_toArray, List.getElem_cons_zero, List.getElem_cons_succ]
          generalize wc.setCell ⟨B1, 2, none⟩ (.slice auB o.ents.length kuB) = wn at *
          clear cc ff gr bT
          have bT : wn.heap[B1]? = some (.cells (objC (.slice auA o.bytes.length kuA) (.slice auB o.ents.length kuB) vp o).toArray 29 (0, 0)) := bN
          clear bN
          obtain ⟨wc, rfl⟩ : ∃ x, x = wn := ⟨_, rfl⟩
          refine wpAny_take (i := 16) (v := ?vc11) rfl (by kernel_rfl) (by kernel_rfl) (by kernel_rfl) (fun _ _ _ h => h) (Or.inl ⟨by rfl, ?hyc11⟩) ?_
          case hyc11 => (intro w; go_simp; try with_reducible rfl)
          simp only [Act.put, List.setIfInBounds_toArray, List.set_cons_zero, List.set_cons_succ, List.getElem_toArray, List.getElem_cons_zero, List.getElem_cons_succ]
          refine wpAny_all (rs := [17]) (by kernel_rfl) (by simp) ?_
          intro i hi; obtain rfl : i = 17 := by simpa using hi
          refine wpOp_run rfl (by rfl) ?_
          obtain ⟨auC, kuC, rfl⟩ := sl_len iC
          have cc := (obj_at bT rfl ho).c4
          have ff := block_free bT 35
          have gr := grown_setCell wc B1 35 (.slice auC o.pars.length kuC)
          have bN := block_setCell bT (i := 35) (.slice auC o.pars.length kuC)
          rw [obj_set35 _ _ _ _ o o.pars ho.tree] at bN
          have iA := IsSl.other iA gr offA
          have iB := IsSl.other iB gr offB
          have iC := IsSl.other iC gr offC
          have X := X.grown gr (fun k hk => by simp at hk; omega)
          have bB := grown_other gr bB (by omega)
          go_simp
          try simp only [Act.put, List.setIfInBounds_toArray, List.set_cons_zero, List.set_cons_succ, List.getElem_toArray, List.getElem_cons_zero, List.getElem_cons_succ]
          generalize wc.setCell ⟨B1, 35, none⟩ (.slice auC o.pars.length kuC) = wn at *
          clear cc ff gr bT
          have bT : wn.heap[B1]? = some (.cells (objC (.slice auA o.bytes.length kuA) (.slice auB o.ents.length kuB) (.slice auC o.pars.length kuC) o).toArray 29 (0, 0)) := bN
          clear bN
          obtain ⟨wc, rfl⟩ : ∃ x, x = wn := ⟨_, rfl⟩
          refine wpAny_done (by kernel_rfl) ?_ _
          refine NoPanic.normal ?_
          have hO : IsObj wc (objC (.slice auA o.bytes.length kuA) (.slice auB o.ents.length kuB) (.slice auC o.pars.length kuC) o).toArray (.slice auA o.bytes.length kuA) (.slice auB o.ents.length kuB) (.slice auC o.pars.length kuC) o := ⟨rfl, ho, iA, iB, iC⟩
          have hfitO := hO.info
          have honeO := hO.one
          have hszO := hO.size
          have offA2 := offA2
          have hlast := hO
          clear hO iA iB iC
          generalize hQB : (objC (.slice auA o.bytes.length kuA) (.slice auB o.ents.length kuB) (.slice auC o.pars.length kuC) o).toArray = QB at *
          go_wp2_with (first
            | ((with_reducible refine at_load 29 (.tmp 1) ?_); refine wpl_load (by rfl) 29 (.tmp 1) rfl B1 (by rfl) 29 QB (0, 0) _ bT Tryd.underlying29 rfl hfitO ?_)
            | ((with_reducible refine at_store 29 (.tmp 2) (.tmp 18) ?_); refine wpl_store (by rfl) 29 (.tmp 2) (.tmp 18) rfl (B1 + 1) QB (by rfl) (by rfl) 29 _ bB hfitO (by rw [hszO]; rfl) honeO ?_))
          have hfin : (wc.setRow (B1 + 1) QB).heap[B1 + 1]? = some (.cells QB 29 (0, 0)) := setRow_heap _ _ _ _ _ _ bB
          refine bodyPost_ret (results_cell_row rfl _ _ (B1 + 1) _ _ _ _ (by rfl) hfin Tryd.underlying29 rfl hfitO) rfl ⟨QB, (.slice auA o.bytes.length kuA), (.slice auB o.ents.length kuB), (.slice auC o.pars.length kuC), rfl, ?_, X.grown grown_setRow' (fun k hk => by simp at hk; omega)⟩
          exact ⟨hlast.eq, hlast.ok, IsSl.other hlast.vb grown_setRow' offA2, IsSl.other hlast.ve grown_setRow' offB2, IsSl.other hlast.vp grown_setRow' offC2⟩
      · refine wpOp_run rfl (by rfl) ?_
        go_simp
        have bC := heap_alloc_new wc (.cells #[] 25)
        have neC : B1 + 1 < wc.heap.size := by have := hHeld.size; omega
        have xn : Ext wc (wc.alloc (.cells #[] 25)) := (Ext.refl wc).alloc _
        have hHeld := hHeld.trans xn
        first | refine ⟨hHeld, ?_⟩ | refine ⟨fun _ => hHeld, ?_⟩
        try simp only [Act.put, List.setIfInBounds_toArray, List.set_cons_zero, List.set_cons_succ, List.getElem_toArray, List.getElem_cons_zero, List.getElem_cons_succ]
        generalize hgC : wc.heap.size = gC at *
        have iA := iA.ext xn
        generalize wc.alloc (.cells #[] 25) = wn at *
        clear xn
        obtain ⟨wc, rfl⟩ : ∃ x, x = wn := ⟨_, rfl⟩
        refine G_all (rs := [4]) (by kernel_rfl) (by simp) ?_
        intro i hi; obtain rfl : i = 4 := by simpa using hi
        refine wpOp_run rfl (by rfl) ?_
        go_simp
        have bB := heap_alloc_new wc (.cells #[] 49)
        have neB : B1 + 1 < wc.heap.size := by have := hHeld.size; omega
        have xn : Ext wc (wc.alloc (.cells #[] 49)) := (Ext.refl wc).alloc _
        have hHeld := hHeld.trans xn
        first | refine ⟨hHeld, ?_⟩ | refine ⟨fun _ => hHeld, ?_⟩
        try simp only [Act.put, List.setIfInBounds_toArray, List.set_cons_zero, List.set_cons_succ, List.getElem_toArray, List.getElem_cons_zero, List.getElem_cons_succ]
        generalize hgB : wc.heap.size = gB at *
        have iA := iA.ext xn
        have bC := xn.keeps bC
        generalize wc.alloc (.cells #[] 49) = wn at *
        clear xn
        obtain ⟨wc, rfl⟩ : ∃ x, x = wn := ⟨_, rfl⟩
        refine G_all (rs := [7]) (by kernel_rfl) (by simp) ?_
        intro i hi; obtain rfl : i = 7 := by simpa using hi
        refine wpOp_run rfl (by rfl) ?_
        refine wp_app0O tyE (.tmp 7) (.tmp 9) rfl gB bB (by rfl) ve o.ents.length (o.ents.flatMap entC) ((HA.out.ext hHeld).ve) (by rfl) (ents_one _) (by omega) (by omega) ?_
        intro uB wn iB xn offB
        have offB2 := offB (B1 + 1) (by omega) (by have := hHeld.size; omega)
        have offB := offB B1 (by omega) (by have := hHeld.size; omega)
        have hHeld := hHeld.trans xn
        first | refine ⟨hHeld, ?_⟩ | refine ⟨fun _ => hHeld, ?_⟩
        try simp only [Act.put, List.setIfInBounds_toArray, List.set_cons_zero, List.set_cons_succ, List.getElem_toArray, List.getElem_cons_zero, List.getElem_cons_succ]
        have iA := iA.ext xn
        have bC := xn.keeps bC
        have bB := xn.keeps bB
        clear xn
        obtain ⟨wc, rfl⟩ : ∃ x, x = wn := ⟨_, rfl⟩
        refine G_all (rs := [11]) (by kernel_rfl) (by simp) ?_
        intro i hi; obtain rfl : i = 11 := by simpa using hi
        refine wpOp_run rfl (by rfl) ?_
        refine wp_app0O tyI (.tmp 11) (.tmp 13) rfl gC bC (by rfl) vp o.pars.length (o.pars.flatMap idC) ((HA.out.ext hHeld).vp) (by rfl) (ids_one _) (by omega) (by omega) ?_
        intro uC wn iC xn offC
        have offC2 := offC (B1 + 1) (by omega) (by have := hHeld.size; omega)
        have offC := offC B1 (by omega) (by have := hHeld.size; omega)
        have hHeld := hHeld.trans xn
        first | refine ⟨hHeld, ?_⟩ | refine ⟨fun _ => hHeld, ?_⟩
        try simp only [Act.put, List.setIfInBounds_toArray, List.set_cons_zero, List.set_cons_succ, List.getElem_toArray, List.getElem_cons_zero, List.getElem_cons_succ]
        have iA := iA.ext xn
        have bC := xn.keeps bC
        have iB := iB.ext xn
        clear xn
        obtain ⟨wc, rfl⟩ : ∃ x, x = wn := ⟨_, rfl⟩
        have bT := hHeld.keeps b1
        have bB := hHeld.keeps b2
        have X := X1.trans hHeld
        refine G_all (rs := [13]) (by kernel_rfl) (by simp) ?_
        intro i hi; obtain rfl : i = 13 := by simpa using hi
        refine wpOp_run rfl (by rfl) ?_
        obtain ⟨auA, kuA, rfl⟩ := sl_len iA
        have cc := (obj_at bT rfl ho).c1
        have ff := block_free bT 1
        have gr := grown_setCell wc B1 1 (.slice auA o.bytes.length kuA)
        have bN := block_setCell bT (i := 1) (.slice auA o.bytes.length kuA)
        rw [obj_set1 _ _ _ _ o o.bytes] at bN
        have iA := IsSl.other iA gr offA
        have iB := IsSl.other iB gr offB
        have iC := IsSl.other iC gr offC
        have X := X.grown gr (fun k hk => by simp at hk; omega)
        have bB := grown_other gr bB (by omega)
        go_simp
        try refine ⟨fun e => absurd e (by decide), ?_⟩
        refine G_free _ _ _ _ (by rfl) ?_
        try simp only [Act.put, List.setIfInBounds_toArray, List.set_cons_zero, List.set_cons_succ, List.getElem_toArray, List.getElem_cons_zero, List.getElem_cons_succ]
        generalize wc.setCell ⟨B1, 1, none⟩ (.slice auA o.bytes.length kuA) = wn at *
        clear cc ff gr bT
        have bT : wn.heap[B1]? = some (.cells (objC (.slice auA o.bytes.length kuA) ve vp o).toArray 29 (0, 0)) := bN
        clear bN
        obtain ⟨wc, rfl⟩ : ∃ x, x = wn := ⟨_, rfl⟩
        refine wpAny_take (i := 14) (v := ?vc12) rfl (by kernel_rfl) (by kernel_rfl) (by kernel_rfl) (fun _ _ _ h => h) (Or.inl ⟨by rfl, ?hyc12⟩) ?_
        case hyc12 => (intro w; go_simp; try with_reducible rfl)
        simp only [Act.put, List.setIfInBounds_toArray, List.set_cons_zero, List.set_cons_succ, List.getElem_toArray, List.getElem_cons_zero, List.getElem_cons_succ]
        refine wpAny_all (rs := [15]) (by kernel_rfl) (by simp) ?_
        intro i hi; obtain rfl : i = 15 := by simpa using hi
        refine wpOp_run rfl (by rfl) ?_
        obtain ⟨auB, kuB, rfl⟩ := sl_len iB
        have cc := (obj_at bT rfl ho).c2
        have ff := block_free bT 2
        have gr := grown_setCell wc B1 2 (.slice auB o.ents.length kuB)
        have bN := block_setCell bT (i := 2) (.slice auB o.ents.length kuB)
        rw [obj_set2 _ _ _ _ o o.ents] at bN
        have iA := IsSl.other iA gr offA
        have iB := IsSl.other iB gr offB
        have iC := IsSl.other iC gr offC
        have X := X.grown gr (fun k hk => by simp at hk; omega)
        have bB := grown_other gr bB (by omega)
        go_simp
        try simp only [Act.put, List.setIfInBounds_toArray, List.set_cons_zero, List.set_cons_succ, List.getElem_toArray, List.getElem_cons_zero, List.getElem_cons_succ]
        generalize wc.setCell ⟨B1, 2, none⟩ (.slice auB o.ents.length kuB) = wn at *
        clear cc ff gr bT
        have bT : wn.heap[B1]? = some (.cells (objC (.slice auA o.bytes.length kuA) (.slice auB o.ents.length kuB) vp o).toArray 29 (0, 0)) := bN
        clear bN
        obtain ⟨wc, rfl⟩ : ∃ x, x = wn := ⟨_, rfl⟩
        refine wpAny_take (i := 16) (v := ?vc13) rfl (by kernel_rfl) (by kernel_rfl) (by kernel_rfl) (fun _ _ _ h => h) (Or.inl ⟨by rfl, ?hyc13⟩) ?_
        case hyc13 => (intro w; go_simp; try with_reducible rfl)
        simp only [Act.put, List.setIfInBounds_toArray, List.set_cons_zero, List.set_cons_succ, List.getElem_toArray, List.getElem_cons_zero, List.getElem_cons_succ]
        refine wpAny_all (rs := [17]) (by kernel_rfl) (by simp) ?_
        intro i hi; obtain rfl : i = 17 := by simpa using hi
        refine wpOp_run rfl (by rfl) ?_
        obtain ⟨auC, kuC, rfl⟩ := sl_len iC
        have cc := (obj_at bT rfl ho).c4
        have ff := block_free bT 35
        have gr := grown_setCell wc B1 35 (.slice auC o.pars.length kuC)
        have bN := block_setCell bT (i := 35) (.slice auC o.pars.length kuC)
        rw [obj_set35 _ _ _ _ o o.pars ho.tree] at bN
        have iA := IsSl.other iA gr offA
        have iB := IsSl.other iB gr offB
        have iC := IsSl.other iC gr offC
        have X := X.grown gr (fun k hk => by simp at hk; omega)
        have bB := grown_other gr bB (by omega)
        go_simp
        try simp only [Act.put, List.setIfInBounds_toArray, List.set_cons_zero, List.set_cons_succ, List.getElem_toArray, List.getElem_cons_zero, List.getElem_cons_succ]
        generalize wc.setCell ⟨B1, 35, none⟩ (.slice auC o.pars.length kuC) = wn at *
        clear cc ff gr bT
        have bT : wn.heap[B1]? = some (.cells (objC (.slice auA o.bytes.length kuA) (.slice auB o.ents.length kuB) (.slice auC o.pars.length kuC) o).toArray 29 (0, 0)) := bN
        clear bN
        obtain ⟨wc, rfl⟩ : ∃ x, x = wn := ⟨_, rfl⟩
        refine wpAny_done (by kernel_rfl) ?_ _
        refine NoPanic.normal ?_
        have hO : IsObj wc (objC (.slice auA o.bytes.length kuA) (.slice auB o.ents.length kuB) (.slice auC o.pars.length kuC) o).toArray (.slice auA o.bytes.length kuA) (.slice auB o.ents.length kuB) (.slice auC o.pars.length kuC) o := ⟨rfl, ho, iA, iB, iC⟩
        have hfitO := hO.info
        have honeO := hO.one
        have hszO := hO.size
        have offA2 := offA2
        have hlast := hO
        clear hO iA iB iC
        generalize hQB : (objC (.slice auA o.bytes.length kuA) (.slice auB o.ents.length kuB) (.slice auC o.pars.length kuC) o).toArray = QB at *
        go_wp2_with (first
          | ((with_reducible refine at_load 29 (.tmp 1) ?_); refine wpl_load (by rfl) 29 (.tmp 1) rfl B1 (by rfl) 29 QB (0, 0) _ bT Tryd.underlying29 rfl hfitO ?_)
          | ((with_reducible refine at_store 29 (.tmp 2) (.tmp 18) ?_); refine wpl_store (by rfl) 29 (.tmp 2) (.tmp 18) rfl (B1 + 1) QB (by rfl) (by rfl) 29 _ bB hfitO (by rw [hszO]; rfl) honeO ?_))
        have hfin : (wc.setRow (B1 + 1) QB).heap[B1 + 1]? = some (.cells QB 29 (0, 0)) := setRow_heap _ _ _ _ _ _ bB
        refine bodyPost_ret (results_cell_row rfl _ _ (B1 + 1) _ _ _ _ (by rfl) hfin Tryd.underlying29 rfl hfitO) rfl ⟨QB, (.slice auA o.bytes.length kuA), (.slice auB o.ents.length kuB), (.slice auC o.pars.length kuC), rfl, ?_, X.grown grown_setRow' (fun k hk => by simp at hk; omega)⟩
        exact ⟨hlast.eq, hlast.ok, IsSl.other hlast.vb grown_setRow' offA2, IsSl.other hlast.ve grown_setRow' offB2, IsSl.other hlast.vp grown_setRow' offC2⟩
    · refine wpOp_run rfl (by rfl) ?_
      go_simp
      have bB := heap_alloc_new wc (.cells #[] 49)
      have neB : B1 + 1 < wc.heap.size := by have := hHeld.size; omega
      have xn : Ext wc (wc.alloc (.cells #[] 49)) := (Ext.refl wc).alloc _
      have hHeld := hHeld.trans xn
      first | refine ⟨hHeld, ?_⟩ | refine ⟨fun _ => hHeld, ?_⟩
      try simp only [Act.put, List.setIfInBounds_toArray, List.set_cons_zero, List.set_cons_succ, List.getElem_toArray, List.getElem_cons_zero, List.getElem_cons_succ]
      generalize hgB : wc.heap.size = gB at *
      have bA := xn.keeps bA
      generalize wc.alloc (.cells #[] 49) = wn at *
      clear xn
      obtain ⟨wc, rfl⟩ : ∃ x, x = wn := ⟨_, rfl⟩
      refine G_all (rs := [3, 8]) (by kernel_rfl) (by simp) ?_
      intro i hi; have hi' : i = 3 ∨ i = 8 := by simpa using hi
      clear hi; rcases hi' with rfl | rfl
      · refine wpOp_run rfl (by rfl) ?_
        refine wp_app0O tyB (.tmp 3) (.tmp 5) rfl gA bA (by rfl) vb o.bytes.length (o.bytes.map bc) ((HA.out.ext hHeld).vb) (by rfl) (bc_one _) (by omega) (by omega) ?_
        intro uA wn iA xn offA
        have offA2 := offA (B1 + 1) (by omega) (by have := hHeld.size; omega)
        have offA := offA B1 (by omega) (by have := hHeld.size; omega)
        have hHeld := hHeld.trans xn
        first | refine ⟨hHeld, ?_⟩ | refine ⟨fun _ => hHeld, ?_⟩
        try simp only [Act.put, List.setIfInBounds_toArray, List.set_cons_zero, List.set_cons_succ, List.getElem_toArray, List.getElem_cons_zero, List.getElem_cons_succ]
        have bA := xn.keeps bA
        have bB := xn.keeps bB
        clear xn
        obtain ⟨wc, rfl⟩ : ∃ x, x = wn := ⟨_, rfl⟩
        refine G_take (i := 12) (u := ?vc14) rfl (by kernel_rfl) (by kernel_rfl) (by kernel_rfl) (fun _ _ _ h => h) rfl (by kernel_rfl) (by decide) (by rfl) (Or.inl ⟨by rfl, ?hyc14⟩) hHeld ?_
        case hyc14 => (intro w hSw; go_simp; try with_reducible rfl)
        simp only [Act.put, List.setIfInBounds_toArray, List.set_cons_zero, List.set_cons_succ, List.getElem_toArray, List.getElem_cons_zero, List.getElem_cons_succ]
        refine G_all (rs := [7, 8]) (by kernel_rfl) (by simp) ?_
        intro i hi; have hi' : i = 7 ∨ i = 8 := by simpa using hi
        clear hi; rcases hi' with rfl | rfl
        · refine wpOp_run rfl (by rfl) ?_
          refine wp_app0O tyE (.tmp 7) (.tmp 9) rfl gB bB (by rfl) ve o.ents.length (o.ents.flatMap entC) ((HA.out.ext hHeld).ve) (by rfl) (ents_one _) (by omega) (by omega) ?_
          intro uB wn iB xn offB
          have offB2 := offB (B1 + 1) (by omega) (by have := hHeld.size; omega)
          have offB := offB B1 (by omega) (by have := hHeld.size; omega)
          have hHeld := hHeld.trans xn
          first | refine ⟨hHeld, ?_⟩ | refine ⟨fun _ => hHeld, ?_⟩
          try simp only [Act.put, List.setIfInBounds_toArray, List.set_cons_zero, List.set_cons_succ, List.getElem_toArray, List.getElem_cons_zero, List.getElem_cons_succ]
          have bB := xn.keeps bB
          have iA := iA.ext xn
          clear xn
          obtain ⟨wc, rfl⟩ : ∃ x, x = wn := ⟨_, rfl⟩
          refine G_all (rs := [8]) (by kernel_rfl) (by simp) ?_
          intro i hi; obtain rfl : i = 8 := by simpa using hi
          refine wpOp_run rfl (by rfl) ?_
          go_simp
          have bC := heap_alloc_new wc (.cells #[] 25)
          have neC : B1 + 1 < wc.heap.size := by have := hHeld.size; omega
          have xn : Ext wc (wc.alloc (.cells #[] 25)) := (Ext.refl wc).alloc _
          have hHeld := hHeld.trans xn
          first | refine ⟨hHeld, ?_⟩ | refine ⟨fun _ => hHeld, ?_⟩
          try simp only [Act.put, List.setIfInBounds_toArray, List.set_cons_zero, List.set_cons_succ, List.getElem_toArray, List.getElem_cons_zero, List.getElem_cons_succ]
          generalize hgC : wc.heap.size = gC at *
          have iA := iA.ext xn
          have iB := iB.ext xn
          generalize wc.alloc (.cells #[] 25) = wn at *
          clear xn
          obtain ⟨wc, rfl⟩ : ∃ x, x = wn := ⟨_, rfl⟩
          refine G_all (rs := [11]) (by kernel_rfl) (by simp) ?_
          intro i hi; obtain rfl : i = 11 := by simpa using hi
          refine wpOp_run rfl (by rfl) ?_
          refine wp_app0O tyI (.tmp 11) (.tmp 13) rfl gC bC (by rfl) vp o.pars.length (o.pars.flatMap idC) ((HA.out.ext hHeld).vp) (by rfl) (ids_one _) (by omega) (by omega) ?_
          intro uC wn iC xn offC
          have offC2 := offC (B1 + 1) (by omega) (by have := hHeld.size; omega)
          have offC := offC B1 (by omega) (by have := hHeld.size; omega)
          have hHeld := hHeld.trans xn
          first | refine ⟨hHeld, ?_⟩ | refine ⟨fun _ => hHeld, ?_⟩
          try simp only [Act.put, List.setIfInBounds_toArray, List.set_cons_zero, List.set_cons_succ, List.getElem_toArray, List.getElem_cons_zero, List.getElem_cons_succ]
          have iA := iA.ext xn
          have iB := iB.ext xn
          have bC := xn.keeps bC
          clear xn
          obtain ⟨wc, rfl⟩ : ∃ x, x = wn := ⟨_, rfl⟩
          have bT := hHeld.keeps b1
          have bB := hHeld.keeps b2
          have X := X1.trans hHeld
          refine G_all (rs := [13]) (by kernel_rfl) (by simp) ?_
          intro i hi; obtain rfl : i = 13 := by simpa using hi
          refine wpOp_run rfl (by rfl) ?_
          obtain ⟨auA, kuA, rfl⟩ := sl_len iA
          have cc := (obj_at bT rfl ho).c1
          have ff := block_free bT 1
          have gr := grown_setCell wc B1 1 (.slice auA o.bytes.length kuA)
          have bN := block_setCell bT (i := 1) (.slice auA o.bytes.length kuA)
          rw [obj_set1 _ _ _ _ o o.bytes] at bN
          have iA := IsSl.other iA gr offA
          have iB := IsSl.other iB gr offB
          have iC := IsSl.other iC gr offC
          have X := X.grown gr (fun k hk => by simp at hk; omega)
          have bB := grown_other gr bB (by omega)
          go_simp
          try refine ⟨fun e => absurd e (by decide), ?_⟩
          refine G_free _ _ _ _ (by rfl) ?_
          try simp only [Act.put, List.setIfInBounds_toArray, List.set_cons_zero, List.set_cons_succ, List.getElem_toArray, List.getElem_cons_zero, List.getElem_cons_succ]
          generalize wc.setCell ⟨B1, 1, none⟩ (.slice auA o.bytes.length kuA) = wn at *
          clear cc ff gr bT
          have bT : wn.heap[B1]? = some (.cells (objC (.slice auA o.bytes.length kuA) ve vp o).toArray 29 (0, 0)) := bN
          clear bN
          obtain ⟨wc, rfl⟩ : ∃ x, x = wn := ⟨_, rfl⟩
          refine wpAny_take (i := 14) (v := ?vc15) rfl (by kernel_rfl) (by kernel_rfl) (by kernel_rfl) (fun _ _ _ h => h) (Or.inl ⟨by rfl, ?hyc15⟩) ?_
          case hyc15 => (intro w; go_simp; try with_reducible rfl)
          simp only [Act.put, List.setIfInBounds_toArray, List.set_cons_zero, List.set_cons_succ, List.getElem_toArray, List.getElem_cons_zero, List.getElem_cons_succ]
          refine wpAny_all (rs := [15]) (by kernel_rfl) (by simp) ?_
          intro i hi; obtain rfl : i = 15 := by simpa using hi
          refine wpOp_run rfl (by rfl) ?_
          obtain ⟨auB, kuB, rfl⟩ := sl_len iB
          have cc := (obj_at bT rfl ho).c2
          have ff := block_free bT 2
          have gr := grown_setCell wc B1 2 (.slice auB o.ents.length kuB)
          have bN := block_setCell bT (i := 2) (.slice auB o.ents.length kuB)
          rw [obj_set2 _ _ _ _ o o.ents] at bN
          have iA := IsSl.other iA gr offA
          have iB := IsSl.other iB gr offB
          have iC := IsSl.other iC gr offC
          have X := X.grown gr (fun k hk => by simp at hk; omega)
          have bB := grown_other gr bB (by omega)
          go_simp
          try simp only [Act.put, List.setIfInBounds_toArray, List.set_cons_zero, List.set_cons_succ, List.getElem_toArray, List.getElem_cons_zero, List.getElem_cons_succ]
          generalize wc.setCell ⟨B1, 2, none⟩ (.slice auB o.ents.length kuB) = wn at *
          clear cc ff gr bT
          have bT : wn.heap[B1]? = some (.cells (objC (.slice auA o.bytes.length kuA) (.slice auB o.ents.length kuB) vp o).toArray 29 (0, 0)) := bN
          clear bN
          obtain ⟨wc, rfl⟩ : ∃ x, x = wn := ⟨_, rfl⟩
          refine wpAny_take (i := 16) (v := ?vc16) rfl (by kernel_rfl) (by kernel_rfl) (by kernel_rfl) (fun _ _ _ h => h) (Or.inl ⟨by rfl, ?hyc16⟩) ?_
          case hyc16 => (intro w; go_simp; try with_reducible rfl)
          simp only [Act.put, List.setIfInBounds_toArray, List.set_cons_zero, List.set_cons_succ, List.getElem_toArray, List.getElem_cons_zero, List.getElem_cons_succ]
          refine wpAny_all (rs := [17]) (by kernel_rfl) (by simp) ?_
          intro i hi; obtain rfl : i = 17 := by simpa using hi
          refine wpOp_run rfl (by rfl) ?_
          obtain ⟨auC, kuC, rfl⟩ := sl_len iC
          have cc := (obj_at bT rfl ho).c4
          have ff := block_free bT 35
          have gr := grown_setCell wc B1 35 (.slice auC o.pars.length kuC)
          have bN := block_setCell bT (i := 35) (.slice auC o.pars.length kuC)
          rw [obj_set35 _ _ _ _ o o.pars ho.tree] at bN
          have iA := IsSl.other iA gr offA
          have iB := IsSl.other iB gr offB
          have iC := IsSl.other iC gr offC
          have X := X.grown gr (fun k hk => by simp at hk; omega)
          have bB := grown_other gr bB (by omega)
          go_simp
          try simp only [Act.put, List.setIfInBounds_toArray, List.set_cons_zero, List.set_cons_succ, List.getElem_toArray, List.getElem_cons_zero, List.getElem_cons_succ]
          generalize wc.setCell ⟨B1, 35, none⟩ (.slice auC o.pars.length kuC) = wn at *
          clear cc ff gr bT
          have bT : wn.heap[B1]? = some (.cells (objC (.slice auA o.bytes.length kuA) (.slice auB o.ents.length kuB) (.slice auC o.pars.length kuC) o).toArray 29 (0, 0)) := bN
          clear bN
          obtain ⟨wc, rfl⟩ : ∃ x, x = wn := ⟨_, rfl⟩
          refine wpAny_done (by kernel_rfl) ?_ _
          refine NoPanic.normal ?_
          have hO : IsObj wc (objC (.slice auA o.bytes.length kuA) (.slice auB o.ents.length kuB) (.slice auC o.pars.length kuC) o).toArray (.slice auA o.bytes.length kuA) (.slice auB o.ents.length kuB) (.slice auC o.pars.length kuC) o := ⟨rfl, ho, iA, iB, iC⟩
          have hfitO := hO.info
          have honeO := hO.one
          have hszO := hO.size
          have offA2 := offA2
          have hlast := hO
          clear hO iA iB iC
          generalize hQB : (objC (.slice auA o.bytes.length kuA) (.slice auB o.ents.length kuB) (.slice auC o.pars.length kuC) o).toArray = QB at *
          go_wp2_with (first
            | ((with_reducible refine at_load 29 (.tmp 1) ?_); refine wpl_load (by rfl) 29 (.tmp 1) rfl B1 (by rfl) 29 QB (0, 0) _ bT Tryd.underlying29 rfl hfitO ?_)
            | ((with_reducible refine at_store 29 (.tmp 2) (.tmp 18) ?_); refine wpl_store (by rfl) 29 (.tmp 2) (.tmp 18) rfl (B1 + 1) QB (by rfl) (by rfl) 29 _ bB hfitO (by rw [hszO]; rfl) honeO ?_))
          have hfin : (wc.setRow (B1 + 1) QB).heap[B1 + 1]? = some (.cells QB 29 (0, 0)) := setRow_heap _ _ _ _ _ _ bB
          refine bodyPost_ret (results_cell_row rfl _ _ (B1 + 1) _ _ _ _ (by rfl) hfin Tryd.underlying29 rfl hfitO) rfl ⟨QB, (.slice auA o.bytes.length kuA), (.slice auB o.ents.length kuB), (.slice auC o.pars.length kuC), rfl, ?_, X.grown grown_setRow' (fun k hk => by simp at hk; omega)⟩
          exact ⟨hlast.eq, hlast.ok, IsSl.other hlast.vb grown_setRow' offA2, IsSl.other hlast.ve grown_setRow' offB2, IsSl.other hlast.vp grown_setRow' offC2⟩
        · refine wpOp_run rfl (by rfl) ?_
          go_simp
          have bC := heap_alloc_new wc (.cells #[] 25)
          have neC : B1 + 1 < wc.heap.size := by have := hHeld.size; omega
          have xn : Ext wc (wc.alloc (.cells #[] 25)) := (Ext.refl wc).alloc _
          have hHeld := hHeld.trans xn
          first | refine ⟨hHeld, ?_⟩ | refine ⟨fun _ => hHeld, ?_⟩
          try simp only [Act.put, List.setIfInBounds_toArray, List.set_cons_zero, List.set_cons_succ, List.getElem_toArray, List.getElem_cons_zero, List.getElem_cons_succ]
          generalize hgC : wc.heap.size = gC at *
          have bB := xn.keeps bB
          have iA := iA.ext xn
          generalize wc.alloc (.cells #[] 25) = wn at *
          clear xn
          obtain ⟨wc, rfl⟩ : ∃ x, x = wn := ⟨_, rfl⟩
          refine G_all (rs := [7]) (by kernel_rfl) (by simp) ?_
          intro i hi; obtain rfl : i = 7 := by simpa using hi
          refine wpOp_run rfl (by rfl) ?_
          refine wp_app0O tyE (.tmp 7) (.tmp 9) rfl gB bB (by rfl) ve o.ents.length (o.ents.flatMap entC) ((HA.out.ext hHeld).ve) (by rfl) (ents_one _) (by omega) (by omega) ?_
          intro uB wn iB xn offB
          have offB2 := offB (B1 + 1) (by omega) (by have := hHeld.size; omega)
          have offB := offB B1 (by omega) (by have := hHeld.size; omega)
          have hHeld := hHeld.trans xn
          first | refine ⟨hHeld, ?_⟩ | refine ⟨fun _ => hHeld, ?_⟩
          try simp only [Act.put, List.setIfInBounds_toArray, List.set_cons_zero, List.set_cons_succ, List.getElem_toArray, List.getElem_cons_zero, List.getElem_cons_succ]
          have bB := xn.keeps bB
          have iA := iA.ext xn
          have bC := xn.keeps bC
          clear xn
          obtain ⟨wc, rfl⟩ : ∃ x, x = wn := ⟨_, rfl⟩
          refine G_all (rs := [11]) (by kernel_rfl) (by simp) ?_
          intro i hi; obtain rfl : i = 11 := by simpa using hi
          refine wpOp_run rfl (by rfl) ?_
          refine wp_app0O tyI (.tmp 11) (.tmp 13) rfl gC bC (by rfl) vp o.pars.length (o.pars.flatMap idC) ((HA.out.ext hHeld).vp) (by rfl) (ids_one _) (by omega) (by omega) ?_
          intro uC wn iC xn offC
          have offC2 := offC (B1 + 1) (by omega) (by have := hHeld.size; omega)
          have offC := offC B1 (by omega) (by have := hHeld.size; omega)
          have hHeld := hHeld.trans xn
          first | refine ⟨hHeld, ?_⟩ | refine ⟨fun _ => hHeld, ?_⟩
          try simp only [Act.put, List.setIfInBounds_toArray, List.set_cons_zero, List.set_cons_succ, List.getElem_toArray, List.getElem_cons_zero, List.getElem_cons_succ]
          have iA := iA.ext xn
          have bC := xn.keeps bC
          have iB := iB.ext xn
          clear xn
          obtain ⟨wc, rfl⟩ : ∃ x, x = wn := ⟨_, rfl⟩
          have bT := hHeld.keeps b1
          have bB := hHeld.keeps b2
          have X := X1.trans hHeld
          refine G_all (rs := [13]) (by kernel_rfl) (by simp) ?_
          intro i hi; obtain rfl : i = 13 := by simpa using hi
          refine wpOp_run rfl (by rfl) ?_
          obtain ⟨auA, kuA, rfl⟩ := sl_len iA
          have cc := (obj_at bT rfl ho).c1
          have ff := block_free bT 1
          have gr := grown_setCell wc B1 1 (.slice auA o.bytes.length kuA)
          have bN := block_setCell bT (i := 1) (.slice auA o.bytes.length kuA)
          rw [obj_set1 _ _ _ _ o o.bytes] at bN
          have iA := IsSl.other iA gr offA
          have iB := IsSl.other iB gr offB
          have iC := IsSl.other iC gr offC
          have X := X.grown gr (fun k hk => by simp at hk; omega)
          have bB := grown_other gr bB (by omega)
          go_simp
          try refine ⟨fun e => absurd e (by decide), ?_⟩
          refine G_free _ _ _ _ (by rfl) ?_
          try simp only [Act.put, List.setIfInBounds_toArray, List.set_cons_zero, List.set_cons_succ, List.getElem_toArray, List.getElem_cons_zero, List.getElem_cons_succ]
          generalize wc.setCell ⟨B1, 1, none⟩ (.slice auA o.bytes.length kuA) = wn at *
          clear cc ff gr bT
          have bT : wn.heap[B1]? = some (.cells (objC (.slice auA o.bytes.length kuA) ve vp o).toArray 29 (0, 0)) := bN
          clear bN
          obtain ⟨wc, rfl⟩ : ∃ x, x = wn := ⟨_, rfl⟩
          refine wpAny_take (i := 14) (v := ?vc17) rfl (by kernel_rfl) (by kernel_rfl) (by kernel_rfl) (fun _ _ _ h => h) (Or.inl ⟨by rfl, ?hyc17⟩) ?_
          case hyc17 => (intro w; go_simp; try with_reducible rfl)
          simp only [Act.put, List.setIfInBounds_toArray, List.set_cons_zero, List.set_cons_succ, List.getElem_toArray, List.getElem_cons_zero, List.getElem_cons_succ]
          refine wpAny_all (rs := [15]) (by kernel_rfl) (by simp) ?_
          intro i hi; obtain rfl : i = 15 := by simpa using hi
          refine wpOp_run rfl (by rfl) ?_
          obtain ⟨auB, kuB, rfl⟩ := sl_len iB
          have cc := (obj_at bT rfl ho).c2
          have ff := block_free bT 2
          have gr := grown_setCell wc B1 2 (.slice auB o.ents.length kuB)
          have bN := block_setCell bT (i := 2) (.slice auB o.ents.length kuB)
          rw [obj_set2 _ _ _ _ o o.ents] at bN
          have iA := IsSl.other iA gr offA
          have iB := IsSl.other iB gr offB
          have iC := IsSl.other iC gr offC
          have X := X.grown gr (fun k hk => by simp at hk; omega)
          have bB := grown_other gr bB (by omega)
          go_simp
          try simp only [Act.put, List.setIfInBounds_toArray, List.set_cons_zero, List.set_cons_succ, List.getElem_toArray, List.getElem_cons_zero, List.getElem_cons_succ]
          generalize wc.setCell ⟨B1, 2, none⟩ (.slice auB o.ents.length kuB) = wn at *
          clear cc ff gr bT
          have bT : wn.heap[B1]? = some (.cells (objC (.slice auA o.bytes.length kuA) (.slice auB o.ents.length kuB) vp o).toArray 29 (0, 0)) := bN
          clear bN
          obtain ⟨wc, rfl⟩ : ∃ x, x = wn := ⟨_, rfl⟩
          refine wpAny_take (i := 16) (v := ?vc18) rfl (by kernel_rfl) (by kernel_rfl) (by kernel_rfl) (fun _ _ _ h => h) (Or.inl ⟨by rfl, ?hyc18⟩) ?_
          case hyc18 => (intro w; go_simp; try with_reducible rfl)
          simp only [Act.put, List.setIfInBounds_toArray, List.set_cons_zero, List.set_cons_succ, List.getElem_toArray, List.getElem_cons_zero, List.getElem_cons_succ]
          refine wpAny_all (rs := [17]) (by kernel_rfl) (by simp) ?_
          intro i hi; obtain rfl : i = 17 := by simpa using hi
          refine wpOp_run rfl (by rfl) ?_
          obtain ⟨auC, kuC, rfl⟩ := sl_len iC
          have cc := (obj_at bT rfl ho).c4
          have ff := block_free bT 35
          have gr := grown_setCell wc B1 35 (.slice auC o.pars.length kuC)
          have bN := block_setCell bT (i := 35) (.slice auC o.pars.length kuC)
          rw [obj_set35 _ _ _ _ o o.pars ho.tree] at bN
          have iA := IsSl.other iA gr offA
          have iB := IsSl.other iB gr offB
          have iC := IsSl.other iC gr offC
          have X := X.grown gr (fun k hk => by simp at hk; omega)
          have bB := grown_other gr bB (by omega)
          go_simp
          try simp only [Act.put, List.setIfInBounds_toArray, List.set_cons_zero, List.set_cons_succ, List.getElem_toArray, List.getElem_cons_zero, List.getElem_cons_succ]
          generalize wc.setCell ⟨B1, 35, none⟩ (.slice auC o.pars.length kuC) = wn at *
          clear cc ff gr bT
          have bT : wn.heap[B1]? = some (.cells (objC (.slice auA o.bytes.length kuA) (.slice auB o.ents.length kuB) (.slice auC o.pars.length kuC) o).toArray 29 (0, 0)) := bN
          clear bN
          obtain ⟨wc, rfl⟩ : ∃ x, x = wn := ⟨_, rfl⟩
          refine wpAny_done (by kernel_rfl) ?_ _
          refine NoPanic.normal ?_
          have hO : IsObj wc (objC (.slice auA o.bytes.length kuA) (.slice auB o.ents.length kuB) (.slice auC o.pars.length kuC) o).toArray (.slice auA o.bytes.length kuA) (.slice auB o.ents.length kuB) (.slice auC o.pars.length kuC) o := ⟨rfl, ho, iA, iB, iC⟩
          have hfitO := hO.info
          have honeO := hO.one
          have hszO := hO.size
          have offA2 := offA2
          have hlast := hO
          clear hO iA iB iC
          generalize hQB : (objC (.slice auA o.bytes.length kuA) (.slice auB o.ents.length kuB) (.slice auC o.pars.length kuC) o).toArray = QB at *
          go_wp2_with (first
            | ((with_reducible refine at_load 29 (.tmp 1) ?_); refine wpl_load (by rfl) 29 (.tmp 1) rfl B1 (by rfl) 29 QB (0, 0) _ bT Tryd.underlying29 rfl hfitO ?_)
            | ((with_reducible refine at_store 29 (.tmp 2) (.tmp 18) ?_); refine wpl_store (by rfl) 29 (.tmp 2) (.tmp 18) rfl (B1 + 1) QB (by rfl) (by rfl) 29 _ bB hfitO (by rw [hszO]; rfl) honeO ?_))
          have hfin : (wc.setRow (B1 + 1) QB).heap[B1 + 1]? = some (.cells QB 29 (0, 0)) := setRow_heap _ _ _ _ _ _ bB
          refine bodyPost_ret (results_cell_row rfl _ _ (B1 + 1) _ _ _ _ (by rfl) hfin Tryd.underlying29 rfl hfitO) rfl ⟨QB, (.slice auA o.bytes.length kuA), (.slice auB o.ents.length kuB), (.slice auC o.pars.length kuC), rfl, ?_, X.grown grown_setRow' (fun k hk => by simp at hk; omega)⟩
          exact ⟨hlast.eq, hlast.ok, IsSl.other hlast.vb grown_setRow' offA2, IsSl.other hlast.ve grown_setRow' offB2, IsSl.other hlast.vp grown_setRow' offC2⟩
      · refine wpOp_run rfl (by rfl) ?_
        go_simp
        have bC := heap_alloc_new wc (.cells #[] 25)
        have neC : B1 + 1 < wc.heap.size := by have := hHeld.size; omega
        have xn : Ext wc (wc.alloc (.cells #[] 25)) := (Ext.refl wc).alloc _
        have hHeld := hHeld.trans xn
        first | refine ⟨hHeld, ?_⟩ | refine ⟨fun _ => hHeld, ?_⟩
        try simp only [Act.put, List.setIfInBounds_toArray, List.set_cons_zero, List.set_cons_succ, List.getElem_toArray, List.getElem_cons_zero, List.getElem_cons_succ]
        generalize hgC : wc.heap.size = gC at *
        have bA := xn.keeps bA
        have bB := xn.keeps bB
        generalize wc.alloc (.cells #[] 25) = wn at *
        clear xn
        obtain ⟨wc, rfl⟩ : ∃ x, x = wn := ⟨_, rfl⟩
        refine G_all (rs := [3]) (by kernel_rfl) (by simp) ?_
        intro i hi; obtain rfl : i = 3 := by simpa using hi
        refine wpOp_run rfl (by rfl) ?_
        refine wp_app0O tyB (.tmp 3) (.tmp 5) rfl gA bA (by rfl) vb o.bytes.length (o.bytes.map bc) ((HA.out.ext hHeld).vb) (by rfl) (bc_one _) (by omega) (by omega) ?_
        intro uA wn iA xn offA
        have offA2 := offA (B1 + 1) (by omega) (by have := hHeld.size; omega)
        have offA := offA B1 (by omega) (by have := hHeld.size; omega)
        have hHeld := hHeld.trans xn
        first | refine ⟨hHeld, ?_⟩ | refine ⟨fun _ => hHeld, ?_⟩
        try simp only [Act.put, List.setIfInBounds_toArray, List.set_cons_zero, List.set_cons_succ, List.getElem_toArray, List.getElem_cons_zero, List.getElem_cons_succ]
        have bA := xn.keeps bA
        have bB := xn.keeps bB
        have bC := xn.keeps bC
        clear xn
        obtain ⟨wc, rfl⟩ : ∃ x, x = wn := ⟨_, rfl⟩
        refine G_take (i := 12) (u := ?vc19) rfl (by kernel_rfl) (by kernel_rfl) (by kernel_rfl) (fun _ _ _ h => h) rfl (by kernel_rfl) (by decide) (by rfl) (Or.inl ⟨by rfl, ?hyc19⟩) hHeld ?_
        case hyc19 => (intro w hSw; go_simp; try with_reducible rfl)
        simp only [Act.put, List.setIfInBounds_toArray, List.set_cons_zero, List.set_cons_succ, List.getElem_toArray, List.getElem_cons_zero, List.getElem_cons_succ]
        refine G_all (rs := [7]) (by kernel_rfl) (by simp) ?_
        intro i hi; obtain rfl : i = 7 := by simpa using hi
        refine wpOp_run rfl (by rfl) ?_
        refine wp_app0O tyE (.tmp 7) (.tmp 9) rfl gB bB (by rfl) ve o.ents.length (o.ents.flatMap entC) ((HA.out.ext hHeld).ve) (by rfl) (ents_one _) (by omega) (by omega) ?_
        intro uB wn iB xn offB
        have offB2 := offB (B1 + 1) (by omega) (by have := hHeld.size; omega)
        have offB := offB B1 (by omega) (by have := hHeld.size; omega)
        have hHeld := hHeld.trans xn
        first | refine ⟨hHeld, ?_⟩ | refine ⟨fun _ => hHeld, ?_⟩
        try simp only [Act.put, List.setIfInBounds_toArray, List.set_cons_zero, List.set_cons_succ, List.getElem_toArray, List.getElem_cons_zero, List.getElem_cons_succ]
        have bB := xn.keeps bB
        have bC := xn.keeps bC
        have iA := iA.ext xn
        clear xn
        obtain ⟨wc, rfl⟩ : ∃ x, x = wn := ⟨_, rfl⟩
        refine G_all (rs := [11]) (by kernel_rfl) (by simp) ?_
        intro i hi; obtain rfl : i = 11 := by simpa using hi
        refine wpOp_run rfl (by rfl) ?_
        refine wp_app0O tyI (.tmp 11) (.tmp 13) rfl gC bC (by rfl) vp o.pars.length (o.pars.flatMap idC) ((HA.out.ext hHeld).vp) (by rfl) (ids_one _) (by omega) (by omega) ?_
        intro uC wn iC xn offC
        have offC2 := offC (B1 + 1) (by omega) (by have := hHeld.size; omega)
        have offC := offC B1 (by omega) (by have := hHeld.size; omega)
        have hHeld := hHeld.trans xn
        first | refine ⟨hHeld, ?_⟩ | refine ⟨fun _ => hHeld, ?_⟩
        try simp only [Act.put, List.setIfInBounds_toArray, List.set_cons_zero, List.set_cons_succ, List.getElem_toArray, List.getElem_cons_zero, List.getElem_cons_succ]
        have bC := xn.keeps bC
        have iA := iA.ext xn
        have iB := iB.ext xn
        clear xn
        obtain ⟨wc, rfl⟩ : ∃ x, x = wn := ⟨_, rfl⟩
        have bT := hHeld.keeps b1
        have bB := hHeld.keeps b2
        have X := X1.trans hHeld
        refine G_all (rs := [13]) (by kernel_rfl) (by simp) ?_
        intro i hi; obtain rfl : i = 13 := by simpa using hi
        refine wpOp_run rfl (by rfl) ?_
        obtain ⟨auA, kuA, rfl⟩ := sl_len iA
        have cc := (obj_at bT rfl ho).c1
        have ff := block_free bT 1
        have gr := grown_setCell wc B1 1 (.slice auA o.bytes.length kuA)
        have bN := block_setCell bT (i := 1) (.slice auA o.bytes.length kuA)
        rw [obj_set1 _ _ _ _ o o.bytes] at bN
        have iA := IsSl.other iA gr offA
        have iB := IsSl.other iB gr offB
        have iC := IsSl.other iC gr offC
        have X := X.grown gr (fun k hk => by simp at hk; omega)
        have bB := grown_other gr bB (by omega)
        go_simp
        try refine ⟨fun e => absurd e (by decide), ?_⟩
        refine G_free _ _ _ _ (by rfl) ?_
        try simp only [Act.put, List.setIfInBounds_toArray, List.set_cons_zero, List.set_cons_succ, List.getElem_toArray, List.getElem_cons_zero, List.getElem_cons_succ]
        generalize wc.setCell ⟨B1, 1, none⟩ (.slice auA o.bytes.length kuA) = wn at *
        clear cc ff gr bT
        have bT : wn.heap[B1]? = some (.cells (objC (.slice auA o.bytes.length kuA) ve vp o).toArray 29 (0, 0)) := bN
        clear bN
        obtain ⟨wc, rfl⟩ : ∃ x, x = wn := ⟨_, rfl⟩
        refine wpAny_take (i := 14) (v := ?vc20) rfl (by kernel_rfl) (by kernel_rfl) (by kernel_rfl) (fun _ _ _ h => h) (Or.inl ⟨by rfl, ?hyc20⟩) ?_
        case hyc20 => (intro w; go_simp; try with_reducible rfl)
        simp only [Act.put, List.setIfInBounds_toArray, List.set_cons_zero, List.set_cons_succ, List.getElem_toArray, List.getElem_cons_zero, List.getElem_cons_succ]
        refine wpAny_all (rs := [15]) (by kernel_rfl) (by simp) ?_
        intro i hi; obtain rfl : i = 15 := by simpa using hi
        refine wpOp_run rfl (by rfl) ?_
        obtain ⟨auB, kuB, rfl⟩ := sl_len iB
        have cc := (obj_at bT rfl ho).c2
        have ff := block_free bT 2
        have gr := grown_setCell wc B1 2 (.slice auB o.ents.length kuB)
        have bN := block_setCell bT (i := 2) (.slice auB o.ents.length kuB)
        rw [obj_set2 _ _ _ _ o o.ents] at bN
        have iA := IsSl.other iA gr offA
        have iB := IsSl.other iB gr offB
        have iC := IsSl.other iC gr offC
        have X := X.grown gr (fun k hk => by simp at hk; omega)
        have bB := grown_other gr bB (by omega)
        go_simp
        try simp only [Act.put, List.setIfInBounds_toArray, List.set_cons_zero, List.set_cons_succ, List.getElem_toArray, List.getElem_cons_zero, List.getElem_cons_succ]
        generalize wc.setCell ⟨B1, 2, none⟩ (.slice auB o.ents.length kuB) = wn at *
        clear cc ff gr bT
        have bT : wn.heap[B1]? = some (.cells (objC (.slice auA o.bytes.length kuA) (.slice auB o.ents.length kuB) vp o).toArray 29 (0, 0)) := bN
        clear bN
        obtain ⟨wc, rfl⟩ : ∃ x, x = wn := ⟨_, rfl⟩
        refine wpAny_take (i := 16) (v := ?vc21) rfl (by kernel_rfl) (by kernel_rfl) (by kernel_rfl) (fun _ _ _ h => h) (Or.inl ⟨by rfl, ?hyc21⟩) ?_
        case hyc21 => (intro w; go_simp; try with_reducible rfl)
        simp only [Act.put, List.setIfInBounds_toArray, List.set_cons_zero, List.set_cons_succ, List.getElem_toArray, List.getElem_cons_zero, List.getElem_cons_succ]
        refine wpAny_all (rs := [17]) (by kernel_rfl) (by simp) ?_
        intro i hi; obtain rfl : i = 17 := by simpa using hi
        refine wpOp_run rfl (by rfl) ?_
        obtain ⟨auC, kuC, rfl⟩ := sl_len iC
        have cc := (obj_at bT rfl ho).c4
        have ff := block_free bT 35
        have gr := grown_setCell wc B1 35 (.slice auC o.pars.length kuC)
        have bN := block_setCell bT (i := 35) (.slice auC o.pars.length kuC)
        rw [obj_set35 _ _ _ _ o o.pars ho.tree] at bN
        have iA := IsSl.other iA gr offA
        have iB := IsSl.other iB gr offB
        have iC := IsSl.other iC gr offC
        have X := X.grown gr (fun k hk => by simp at hk; omega)
        have bB := grown_other gr bB (by omega)
        go_simp
        try simp only [Act.put, List.setIfInBounds_toArray, List.set_cons_zero, List.set_cons_succ, List.getElem_toArray, List.getElem_cons_zero, List.getElem_cons_succ]
        generalize wc.setCell ⟨B1, 35, none⟩ (.slice auC o.pars.length kuC) = wn at *
        clear cc ff gr bT
        have bT : wn.heap[B1]? = some (.cells (objC (.slice auA o.bytes.length kuA) (.slice auB o.ents.length kuB) (.slice auC o.pars.length kuC) o).toArray 29 (0, 0)) := bN
        clear bN
        obtain ⟨wc, rfl⟩ : ∃ x, x = wn := ⟨_, rfl⟩
        refine wpAny_done (by kernel_rfl) ?_ _
        refine NoPanic.normal ?_
        have hO : IsObj wc (objC (.slice auA o.bytes.length kuA) (.slice auB o.ents.length kuB) (.slice auC o.pars.length kuC) o).toArray (.slice auA o.bytes.length kuA) (.slice auB o.ents.length kuB) (.slice auC o.pars.length kuC) o := ⟨rfl, ho, iA, iB, iC⟩
        have hfitO := hO.info
        have honeO := hO.one
        have hszO := hO.size
        have offA2 := offA2
        have hlast := hO
        clear hO iA iB iC
        generalize hQB : (objC (.slice auA o.bytes.length kuA) (.slice auB o.ents.length kuB) (.slice auC o.pars.length kuC) o).toArray = QB at *
        go_wp2_with (first
          | ((with_reducible refine at_load 29 (.tmp 1) ?_); refine wpl_load (by rfl) 29 (.tmp 1) rfl B1 (by rfl) 29 QB (0, 0) _ bT Tryd.underlying29 rfl hfitO ?_)
          | ((with_reducible refine at_store 29 (.tmp 2) (.tmp 18) ?_); refine wpl_store (by rfl) 29 (.tmp 2) (.tmp 18) rfl (B1 + 1) QB (by rfl) (by rfl) 29 _ bB hfitO (by rw [hszO]; rfl) honeO ?_))
        have hfin : (wc.setRow (B1 + 1) QB).heap[B1 + 1]? = some (.cells QB 29 (0, 0)) := setRow_heap _ _ _ _ _ _ bB
        refine bodyPost_ret (results_cell_row rfl _ _ (B1 + 1) _ _ _ _ (by rfl) hfin Tryd.underlying29 rfl hfitO) rfl ⟨QB, (.slice auA o.bytes.length kuA), (.slice auB o.ents.length kuB), (.slice auC o.pars.length kuC), rfl, ?_, X.grown grown_setRow' (fun k hk => by simp at hk; omega)⟩
        exact ⟨hlast.eq, hlast.ok, IsSl.other hlast.vb grown_setRow' offA2, IsSl.other hlast.ve grown_setRow' offB2, IsSl.other hlast.vp grown_setRow' offC2⟩
    · refine wpOp_run rfl (by rfl) ?_
      go_simp
      have bC := heap_alloc_new wc (.cells #[] 25)
      have neC : B1 + 1 < wc.heap.size := by have := hHeld.size; omega
      have xn : Ext wc (wc.alloc (.cells #[] 25)) := (Ext.refl wc).alloc _
      have hHeld := hHeld.trans xn
      first | refine ⟨hHeld, ?_⟩ | refine ⟨fun _ => hHeld, ?_⟩
      try simp only [Act.put, List.setIfInBounds_toArray, List.set_cons_zero, List.set_cons_succ, List.getElem_toArray, List.getElem_cons_zero, List.getElem_cons_succ]
      generalize hgC : wc.heap.size = gC at *
      have bA := xn.keeps bA
      generalize wc.alloc (.cells #[] 25) = wn at *
      clear xn
      obtain ⟨wc, rfl⟩ : ∃ x, x = wn := ⟨_, rfl⟩
      refine G_all (rs := [3, 4]) (by kernel_rfl) (by simp) ?_
      intro i hi; have hi' : i = 3 ∨ i = 4 := by simpa using hi
      clear hi; rcases hi' with rfl | rfl
      · refine wpOp_run rfl (by rfl) ?_
        refine wp_app0O tyB (.tmp 3) (.tmp 5) rfl gA bA (by rfl) vb o.bytes.length (o.bytes.map bc) ((HA.out.ext hHeld).vb) (by rfl) (bc_one _) (by omega) (by omega) ?_
        intro uA wn iA xn offA
        have offA2 := offA (B1 + 1) (by omega) (by have := hHeld.size; omega)
        have offA := offA B1 (by omega) (by have := hHeld.size; omega)
        have hHeld := hHeld.trans xn
        first | refine ⟨hHeld, ?_⟩ | refine ⟨fun _ => hHeld, ?_⟩
        try simp only [Act.put, List.setIfInBounds_toArray, List.set_cons_zero, List.set_cons_succ, List.getElem_toArray, List.getElem_cons_zero, List.getElem_cons_succ]
        have bA := xn.keeps bA
        have bC := xn.keeps bC
        clear xn
        obtain ⟨wc, rfl⟩ : ∃ x, x = wn := ⟨_, rfl⟩
        refine G_take (i := 12) (u := ?vc22) rfl (by kernel_rfl) (by kernel_rfl) (by kernel_rfl) (fun _ _ _ h => h) rfl (by kernel_rfl) (by decide) (by rfl) (Or.inl ⟨by rfl, ?hyc22⟩) hHeld ?_
        case hyc22 => (intro w hSw; go_simp; try with_reducible rfl)
        simp only [Act.put, List.setIfInBounds_toArray, List.set_cons_zero, List.set_cons_succ, List.getElem_toArray, List.getElem_cons_zero, List.getElem_cons_succ]
        refine G_all (rs := [4]) (by kernel_rfl) (by simp) ?_
        intro i hi; obtain rfl : i = 4 := by simpa using hi
        refine wpOp_run rfl (by rfl) ?_
        go_simp
        have bB := heap_alloc_new wc (.cells #[] 49)
        have neB : B1 + 1 < wc.heap.size := by have := hHeld.size; omega
        have xn : Ext wc (wc.alloc (.cells #[] 49)) := (Ext.refl wc).alloc _
        have hHeld := hHeld.trans xn
        first | refine ⟨hHeld, ?_⟩ | refine ⟨fun _ => hHeld, ?_⟩
        try simp only [Act.put, List.setIfInBounds_toArray, List.set_cons_zero, List.set_cons_succ, List.getElem_toArray, List.getElem_cons_zero, List.getElem_cons_succ]
        generalize hgB : wc.heap.size = gB at *
        have bC := xn.keeps bC
        have iA := iA.ext xn
        generalize wc.alloc (.cells #[] 49) = wn at *
        clear xn
        obtain ⟨wc, rfl⟩ : ∃ x, x = wn := ⟨_, rfl⟩
        refine G_all (rs := [7]) (by kernel_rfl) (by simp) ?_
        intro i hi; obtain rfl : i = 7 := by simpa using hi
        refine wpOp_run rfl (by rfl) ?_
        refine wp_app0O tyE (.tmp 7) (.tmp 9) rfl gB bB (by rfl) ve o.ents.length (o.ents.flatMap entC) ((HA.out.ext hHeld).ve) (by rfl) (ents_one _) (by omega) (by omega) ?_
        intro uB wn iB xn offB
        have offB2 := offB (B1 + 1) (by omega) (by have := hHeld.size; omega)
        have offB := offB B1 (by omega) (by have := hHeld.size; omega)
        have hHeld := hHeld.trans xn
        first | refine ⟨hHeld, ?_⟩ | refine ⟨fun _ => hHeld, ?_⟩
        try simp only [Act.put, List.setIfInBounds_toArray, List.set_cons_zero, List.set_cons_succ, List.getElem_toArray, List.getElem_cons_zero, List.getElem_cons_succ]
        have bC := xn.keeps bC
        have iA := iA.ext xn
        have bB := xn.keeps bB
        clear xn
        obtain ⟨wc, rfl⟩ : ∃ x, x = wn := ⟨_, rfl⟩
        refine G_all (rs := [11]) (by kernel_rfl) (by simp) ?_
        intro i hi; obtain rfl : i = 11 := by simpa using hi
        refine wpOp_run rfl (by rfl) ?_
        refine wp_app0O tyI (.tmp 11) (.tmp 13) rfl gC bC (by rfl) vp o.pars.length (o.pars.flatMap idC) ((HA.out.ext hHeld).vp) (by rfl) (ids_one _) (by omega) (by omega) ?_
        intro uC wn iC xn offC
        have offC2 := offC (B1 + 1) (by omega) (by have := hHeld.size; omega)
        have offC := offC B1 (by omega) (by have := hHeld.size; omega)
        have hHeld := hHeld.trans xn
        first | refine ⟨hHeld, ?_⟩ | refine ⟨fun _ => hHeld, ?_⟩
        try simp only [Act.put, List.setIfInBounds_toArray, List.set_cons_zero, List.set_cons_succ, List.getElem_toArray, List.getElem_cons_zero, List.getElem_cons_succ]
        have bC := xn.keeps bC
        have iA := iA.ext xn
        have iB := iB.ext xn
        clear xn
        obtain ⟨wc, rfl⟩ : ∃ x, x = wn := ⟨_, rfl⟩
        have bT := hHeld.keeps b1
        have bB := hHeld.keeps b2
        have X := X1.trans hHeld
        refine G_all (rs := [13]) (by kernel_rfl) (by simp) ?_
        intro i hi; obtain rfl : i = 13 := by simpa using hi
        refine wpOp_run rfl (by rfl) ?_
        obtain ⟨auA, kuA, rfl⟩ := sl_len iA
        have cc := (obj_at bT rfl ho).c1
        have ff := block_free bT 1
        have gr := grown_setCell wc B1 1 (.slice auA o.bytes.length kuA)
        have bN := block_setCell bT (i := 1) (.slice auA o.bytes.length kuA)
        rw [obj_set1 _ _ _ _ o o.bytes] at bN
        have iA := IsSl.other iA gr offA
        have iB := IsSl.other iB gr offB
        have iC := IsSl.other iC gr offC
        have X := X.grown gr (fun k hk => by simp at hk; omega)
        have bB := grown_other gr bB (by omega)
        go_simp
        try refine ⟨fun e => absurd e (by decide), ?_⟩
        refine G_free _ _ _ _ (by rfl) ?_
        try simp only [Act.put, List.setIfInBounds_toArray, List.set_cons_zero, List.set_cons_succ, List.getElem_toArray, List.getElem_cons_zero, List.getElem_cons_succ]
        generalize wc.setCell ⟨B1, 1, none⟩ (.slice auA o.bytes.length kuA) = wn at *
        clear cc ff gr bT
        have bT : wn.heap[B1]? = some (.cells (objC (.slice auA o.bytes.length kuA) ve vp o).toArray 29 (0, 0)) := bN
        clear bN
        obtain ⟨wc, rfl⟩ : ∃ x, x = wn := ⟨_, rfl⟩
        refine wpAny_take (i := 14) (v := ?vc23) rfl (by kernel_rfl) (by kernel_rfl) (by kernel_rfl) (fun _ _ _ h => h) (Or.inl ⟨by rfl, ?hyc23⟩) ?_
        case hyc23 => (intro w; go_simp; try with_reducible rfl)
        simp only [Act.put, List.setIfInBounds_toArray, List.set_cons_zero, List.set_cons_succ, List.getElem_toArray, List.getElem_cons_zero, List.getElem_cons_succ]
        refine wpAny_all (rs := [15]) (by kernel_rfl) (by simp) ?_
        intro i hi; obtain rfl : i = 15 := by simpa using hi
        refine wpOp_run rfl (by rfl) ?_
        obtain ⟨auB, kuB, rfl⟩ := sl_len iB
        have cc := (obj_at bT rfl ho).c2
        have ff := block_free bT 2
        have gr := grown_setCell wc B1 2 (.slice auB o.ents.length kuB)
        have bN := block_setCell bT (i := 2) (.slice auB o.ents.length kuB)
        rw [obj_set2 _ _ _ _ o o.ents] at bN
        have iA := IsSl.other iA gr offA
        have iB := IsSl.other iB gr offB
        have iC := IsSl.other iC gr offC
        have X := X.grown gr (fun k hk => by simp at hk; omega)
        have bB := grown_other gr bB (by omega)
        go_simp
        try simp only [Act.put, List.setIfInBounds_toArray, List.set_cons_zero, List.set_cons_succ, List.getElem_toArray, List.getElem_cons_zero, List.getElem_cons_succ]
        generalize wc.setCell ⟨B1, 2, none⟩ (.slice auB o.ents.length kuB) = wn at *
        clear cc ff gr bT
        have bT : wn.heap[B1]? = some (.cells (objC (.slice auA o.bytes.length kuA) (.slice auB o.ents.length kuB) vp o).toArray 29 (0, 0)) := bN
        clear bN
        obtain ⟨wc, rfl⟩ : ∃ x, x = wn := ⟨_, rfl⟩
        refine wpAny_take (i := 16) (v := ?vc24) rfl (by kernel_rfl) (by kernel_rfl) (by kernel_rfl) (fun _ _ _ h => h) (Or.inl ⟨by rfl, ?hyc24⟩) ?_
        case hyc24 => (intro w; go_simp; try with_reducible rfl)
        simp only [Act.put, List.setIfInBounds_toArray, List.set_cons_zero, List.set_cons_succ, List.getElem_toArray, List.getElem_cons_zero, List.getElem_cons_succ]
        refine wpAny_all (rs := [17]) (by kernel_rfl) (by simp) ?_
        intro i hi; obtain rfl : i = 17 := by simpa using hi
        refine wpOp_run rfl (by rfl) ?_
        obtain ⟨auC, kuC, rfl⟩ := sl_len iC
        have cc := (obj_at bT rfl ho).c4
        have ff := block_free bT 35
        have gr := grown_setCell wc B1 35 (.slice auC o.pars.length kuC)
        have bN := block_setCell bT (i := 35) (.slice auC o.pars.length kuC)
        rw [obj_set35 _ _ _ _ o o.pars ho.tree] at bN
        have iA := IsSl.other iA gr offA
        have iB := IsSl.other iB gr offB
        have iC := IsSl.other iC gr offC
        have X := X.grown gr (fun k hk => by simp at hk; omega)
        have bB := grown_other gr bB (by omega)
        go_simp
        try simp only [Act.put, List.setIfInBounds_toArray, List.set_cons_zero, List.set_cons_succ, List.getElem_toArray, List.getElem_cons_zero, List.getElem_cons_succ]
        generalize wc.setCell ⟨B1, 35, none⟩ (.slice auC o.pars.length kuC) = wn at *
        clear cc ff gr bT
        have bT : wn.heap[B1]? = some (.cells (objC (.slice auA o.bytes.length kuA) (.slice auB o.ents.length kuB) (.slice auC o.pars.length kuC) o).toArray 29 (0, 0)) := bN
        clear bN
        obtain ⟨wc, rfl⟩ : ∃ x, x = wn := ⟨_, rfl⟩
        refine wpAny_done (by kernel_rfl) ?_ _
        refine NoPanic.normal ?_
        have hO : IsObj wc (objC (.slice auA o.bytes.length kuA) (.slice auB o.ents.length kuB) (.slice auC o.pars.length kuC) o).toArray (.slice auA o.bytes.length kuA) (.slice auB o.ents.length kuB) (.slice auC o.pars.length kuC) o := ⟨rfl, ho, iA, iB, iC⟩
        have hfitO := hO.info
        have honeO := hO.one
        have hszO := hO.size
        have offA2 := offA2
        have hlast := hO
        clear hO iA iB iC
        generalize hQB : (objC (.slice auA o.bytes.length kuA) (.slice auB o.ents.length kuB) (.slice auC o.pars.length kuC) o).toArray = QB at *
        go_wp2_with (first
          | ((with_reducible refine at_load 29 (.tmp 1) ?_); refine wpl_load (by rfl) 29 (.tmp 1) rfl B1 (by rfl) 29 QB (0, 0) _ bT Tryd.underlying29 rfl hfitO ?_)
          | ((with_reducible refine at_store 29 (.tmp 2) (.tmp 18) ?_); refine wpl_store (by rfl) 29 (.tmp 2) (.tmp 18) rfl (B1 + 1) QB (by rfl) (by rfl) 29 _ bB hfitO (by rw [hszO]; rfl) honeO ?_))
        have hfin : (wc.setRow (B1 + 1) QB).heap[B1 + 1]? = some (.cells QB 29 (0, 0)) := setRow_heap _ _ _ _ _ _ bB
        refine bodyPost_ret (results_cell_row rfl _ _ (B1 + 1) _ _ _ _ (by rfl) hfin Tryd.underlying29 rfl hfitO) rfl ⟨QB, (.slice auA o.bytes.length kuA), (.slice auB o.ents.length kuB), (.slice auC o.pars.length kuC), rfl, ?_, X.grown grown_setRow' (fun k hk => by simp at hk; omega)⟩
        exact ⟨hlast.eq, hlast.ok, IsSl.other hlast.vb grown_setRow' offA2, IsSl.other hlast.ve grown_setRow' offB2, IsSl.other hlast.vp grown_setRow' offC2⟩
      · refine wpOp_run rfl (by rfl) ?_
        go_simp
        have bB := heap_alloc_new wc (.cells #[] 49)
        have neB : B1 + 1 < wc.heap.size := by have := hHeld.size; omega
        have xn : Ext wc (wc.alloc (.cells #[] 49)) := (Ext.refl wc).alloc _
        have hHeld := hHeld.trans xn
        first | refine ⟨hHeld, ?_⟩ | refine ⟨fun _ => hHeld, ?_⟩
        try simp only [Act.put, List.setIfInBounds_toArray, List.set_cons_zero, List.set_cons_succ, List.getElem_toArray, List.getElem_cons_zero, List.getElem_cons_succ]
        generalize hgB : wc.heap.size = gB at *
        have bA := xn.keeps bA
        have bC := xn.keeps bC
        generalize wc.alloc (.cells #[] 49) = wn at *
        clear xn
        obtain ⟨wc, rfl⟩ : ∃ x, x = wn := ⟨_, rfl⟩
        refine G_all (rs := [3]) (by kernel_rfl) (by simp) ?_
        intro i hi; obtain rfl : i = 3 := by simpa using hi
        refine wpOp_run rfl (by rfl) ?_
        refine wp_app0O tyB (.tmp 3) (.tmp 5) rfl gA bA (by rfl) vb o.bytes.length (o.bytes.map bc) ((HA.out.ext hHeld).vb) (by rfl) (bc_one _) (by omega) (by omega) ?_
        intro uA wn iA xn offA
        have offA2 := offA (B1 + 1) (by omega) (by have := hHeld.size; omega)
        have offA := offA B1 (by omega) (by have := hHeld.size; omega)
        have hHeld := hHeld.trans xn
        first | refine ⟨hHeld, ?_⟩ | refine ⟨fun _ => hHeld, ?_⟩
        try simp only [Act.put, List.setIfInBounds_toArray, List.set_cons_zero, List.set_cons_succ, List.getElem_toArray, List.getElem_cons_zero, List.getElem_cons_succ]
        have bA := xn.keeps bA
        have bC := xn.keeps bC
        have bB := xn.keeps bB
        clear xn
        obtain ⟨wc, rfl⟩ : ∃ x, x = wn := ⟨_, rfl⟩
        refine G_take (i := 12) (u := ?vc25) rfl (by kernel_rfl) (by kernel_rfl) (by kernel_rfl) (fun _ _ _ h => h) rfl (by kernel_rfl) (by decide) (by rfl) (Or.inl ⟨by rfl, ?hyc25⟩) hHeld ?_
        case hyc25 => (intro w hSw; go_simp; try with_reducible rfl)
        simp only [Act.put, List.setIfInBounds_toArray, List.set_cons_zero, List.set_cons_succ, List.getElem_toArray, List.getElem_cons_zero, List.getElem_cons_succ]
        refine G_all (rs := [7]) (by kernel_rfl) (by simp) ?_
        intro i hi; obtain rfl : i = 7 := by simpa using hi
        refine wpOp_run rfl (by rfl) ?_
        refine wp_app0O tyE (.tmp 7) (.tmp 9) rfl gB bB (by rfl) ve o.ents.length (o.ents.flatMap entC) ((HA.out.ext hHeld).ve) (by rfl) (ents_one _) (by omega) (by omega) ?_
        intro uB wn iB xn offB
        have offB2 := offB (B1 + 1) (by omega) (by have := hHeld.size; omega)
        have offB := offB B1 (by omega) (by have := hHeld.size; omega)
        have hHeld := hHeld.trans xn
        first | refine ⟨hHeld, ?_⟩ | refine ⟨fun _ => hHeld, ?_⟩
        try simp only [Act.put, List.setIfInBounds_toArray, List.set_cons_zero, List.set_cons_succ, List.getElem_toArray, List.getElem_cons_zero, List.getElem_cons_succ]
        have bC := xn.keeps bC
        have bB := xn.keeps bB
        have iA := iA.ext xn
        clear xn
        obtain ⟨wc, rfl⟩ : ∃ x, x = wn := ⟨_, rfl⟩
        refine G_all (rs := [11]) (by kernel_rfl) (by simp) ?_
        intro i hi; obtain rfl : i = 11 := by simpa using hi
        refine wpOp_run rfl (by rfl) ?_
        refine wp_app0O tyI (.tmp 11) (.tmp 13) rfl gC bC (by rfl) vp o.pars.length (o.pars.flatMap idC) ((HA.out.ext hHeld).vp) (by rfl) (ids_one _) (by omega) (by omega) ?_
        intro uC wn iC xn offC
        have offC2 := offC (B1 + 1) (by omega) (by have := hHeld.size; omega)
        have offC := offC B1 (by omega) (by have := hHeld.size; omega)
        have hHeld := hHeld.trans xn
        first | refine ⟨hHeld, ?_⟩ | refine ⟨fun _ => hHeld, ?_⟩
        try simp only [Act.put, List.setIfInBounds_toArray, List.set_cons_zero, List.set_cons_succ, List.getElem_toArray, List.getElem_cons_zero, List.getElem_cons_succ]
        have bC := xn.keeps bC
        have iA := iA.ext xn
        have iB := iB.ext xn
        clear xn
        obtain ⟨wc, rfl⟩ : ∃ x, x = wn := ⟨_, rfl⟩
        have bT := hHeld.keeps b1
        have bB := hHeld.keeps b2
        have X := X1.trans hHeld
        refine G_all (rs := [13]) (by kernel_rfl) (by simp) ?_
        intro i hi; obtain rfl : i = 13 := by simpa using hi
        refine wpOp_run rfl (by rfl) ?_
        obtain ⟨auA, kuA, rfl⟩ := sl_len iA
        have cc := (obj_at bT rfl ho).c1
        have ff := block_free bT 1
        have gr := grown_setCell wc B1 1 (.slice auA o.bytes.length kuA)
        have bN := block_setCell bT (i := 1) (.slice auA o.bytes.length kuA)
        rw [obj_set1 _ _ _ _ o o.bytes] at bN
        have iA := IsSl.other iA gr offA
        have iB := IsSl.other iB gr offB
        have iC := IsSl.other iC gr offC
        have X := X.grown gr (fun k hk => by simp at hk; omega)
        have bB := grown_other gr bB (by omega)
        go_simp
        try refine ⟨fun e => absurd e (by decide), ?_⟩
        refine G_free _ _ _ _ (by rfl) ?_
        try simp only [Act.put, List.setIfInBounds_toArray, List.set_cons_zero, List.set_cons_succ, List.getElem_toArray, List.getElem_cons_zero, List.getElem_cons_succ]
        generalize wc.setCell ⟨B1, 1, none⟩ (.slice auA o.bytes.length kuA) = wn at *
        clear cc ff gr bT
        have bT : wn.heap[B1]? = some (.cells (objC (.slice auA o.bytes.length kuA) ve vp o).toArray 29 (0, 0)) := bN
        clear bN
        obtain ⟨wc, rfl⟩ : ∃ x, x = wn := ⟨_, rfl⟩
        refine wpAny_take (i := 14) (v := ?vc26) rfl (by kernel_rfl) (by kernel_rfl) (by kernel_rfl) (fun _ _ _ h => h) (Or.inl ⟨by rfl, ?hyc26⟩) ?_
        case hyc26 => (intro w; go_simp; try with_reducible rfl)
        simp only [Act.put, List.setIfInBounds_toArray, List.set_cons_zero, List.set_cons_succ, List.getElem_toArray, List.getElem_cons_zero, List.getElem_cons_succ]
        refine wpAny_all (rs := [15]) (by kernel_rfl) (by simp) ?_
        intro i hi; obtain rfl : i = 15 := by simpa using hi
        refine wpOp_run rfl (by rfl) ?_
        obtain ⟨auB, kuB, rfl⟩ := sl_len iB
        have cc := (obj_at bT rfl ho).c2
        have ff := block_free bT 2
        have gr := grown_setCell wc B1 2 (.slice auB o.ents.length kuB)
        have bN := block_setCell bT (i := 2) (.slice auB o.ents.length kuB)
        rw [obj_set2 _ _ _ _ o o.ents] at bN
        have iA := IsSl.other iA gr offA
        have iB := IsSl.other iB gr offB
        have iC := IsSl.other iC gr offC
        have X := X.grown gr (fun k hk => by simp at hk; omega)
        have bB := grown_other gr bB (by omega)
        go_simp
        try simp only [Act.put, List.setIfInBounds_toArray, List.set_cons_zero, List.set_cons_succ, List.getElem_toArray, List.getElem_cons_zero, List.getElem_cons_succ]
        generalize wc.setCell ⟨B1, 2, none⟩ (.slice auB o.ents.length kuB) = wn at *
        clear cc ff gr bT
        have bT : wn.heap[B1]? = some (.cells (objC (.slice auA o.bytes.length kuA) (.slice auB o.ents.length kuB) vp o).toArray 29 (0, 0)) := bN
        clear bN
        obtain ⟨wc, rfl⟩ : ∃ x, x = wn := ⟨_, rfl⟩
        refine wpAny_take (i := 16) (v := ?vc27) rfl (by kernel_rfl) (by kernel_rfl) (by kernel_rfl) (fun _ _ _ h => h) (Or.inl ⟨by rfl, ?hyc27⟩) ?_
        case hyc27 => (intro w; go_simp; try with_reducible rfl)
        simp only [Act.put, List.setIfInBounds_toArray, List.set_cons_zero, List.set_cons_succ, List.getElem_toArray, List.getElem_cons_zero, List.getElem_cons_succ]
        refine wpAny_all (rs := [17]) (by kernel_rfl) (by simp) ?_
        intro i hi; obtain rfl : i = 17 := by simpa using hi
        refine wpOp_run rfl (by rfl) ?_
        obtain ⟨auC, kuC, rfl⟩ := sl_len iC
        have cc := (obj_at bT rfl ho).c4
        have ff := block_free bT 35
        have gr := grown_setCell wc B1 35 (.slice auC o.pars.length kuC)
        have bN := block_setCell bT (i := 35) (.slice auC o.pars.length kuC)
        rw [obj_set35 _ _ _ _ o o.pars ho.tree] at bN
        have iA := IsSl.other iA gr offA
        have iB := IsSl.other iB gr offB
        have iC := IsSl.other iC gr offC
        have X := X.grown gr (fun k hk => by simp at hk; omega)
        have bB := grown_other gr bB (by omega)
        go_simp
        try simp only [Act.put, List.setIfInBounds_toArray, List.set_cons_zero, List.set_cons_succ, List.getElem_toArray, List.getElem_cons_zero, List.getElem_cons_succ]
        generalize wc.setCell ⟨B1, 35, none⟩ (.slice auC o.pars.length kuC) = wn at *
        clear cc ff gr bT
        have bT : wn.heap[B1]? = some (.cells (objC (.slice auA o.bytes.length kuA) (.slice auB o.ents.length kuB) (.slice auC o.pars.length kuC) o).toArray 29 (0, 0)) := bN
        clear bN
        obtain ⟨wc, rfl⟩ : ∃ x, x = wn := ⟨_, rfl⟩
        refine wpAny_done (by kernel_rfl) ?_ _
        refine NoPanic.normal ?_
        have hO : IsObj wc (objC (.slice auA o.bytes.length kuA) (.slice auB o.ents.length kuB) (.slice auC o.pars.length kuC) o).toArray (.slice auA o.bytes.length kuA) (.slice auB o.ents.length kuB) (.slice auC o.pars.length kuC) o := ⟨rfl, ho, iA, iB, iC⟩
        have hfitO := hO.info
        have honeO := hO.one
        have hszO := hO.size
        have offA2 := offA2
        have hlast := hO
        clear hO iA iB iC
        generalize hQB : (objC (.slice auA o.bytes.length kuA) (.slice auB o.ents.length kuB) (.slice auC o.pars.length kuC) o).toArray = QB at *
        go_wp2_with (first
          | ((with_reducible refine at_load 29 (.tmp 1) ?_); refine wpl_load (by rfl) 29 (.tmp 1) rfl B1 (by rfl) 29 QB (0, 0) _ bT Tryd.underlying29 rfl hfitO ?_)
          | ((with_reducible refine at_store 29 (.tmp 2) (.tmp 18) ?_); refine wpl_store (by rfl) 29 (.tmp 2) (.tmp 18) rfl (B1 + 1) QB (by rfl) (by rfl) 29 _ bB hfitO (by rw [hszO]; rfl) honeO ?_))
        have hfin : (wc.setRow (B1 + 1) QB).heap[B1 + 1]? = some (.cells QB 29 (0, 0)) := setRow_heap _ _ _ _ _ _ bB
        refine bodyPost_ret (results_cell_row rfl _ _ (B1 + 1) _ _ _ _ (by rfl) hfin Tryd.underlying29 rfl hfitO) rfl ⟨QB, (.slice auA o.bytes.length kuA), (.slice auB o.ents.length kuB), (.slice auC o.pars.length kuC), rfl, ?_, X.grown grown_setRow' (fun k hk => by simp at hk; omega)⟩
        exact ⟨hlast.eq, hlast.ok, IsSl.other hlast.vb grown_setRow' offA2, IsSl.other hlast.ve grown_setRow' offB2, IsSl.other hlast.vp grown_setRow' offC2⟩
  · refine wpOp_run rfl (by rfl) ?_
    go_simp
    have bB := heap_alloc_new wc (.cells #[] 49)
    have neB : B1 + 1 < wc.heap.size := by have := hHeld.size; omega
    have xn : Ext wc (wc.alloc (.cells #[] 49)) := (Ext.refl wc).alloc _
    have hHeld := hHeld.trans xn
    first | refine ⟨hHeld, ?_⟩ | refine ⟨fun _ => hHeld, ?_⟩
    try simp only [Act.put, List.setIfInBounds_toArray, List.set_cons_zero, List.set_cons_succ, List.getElem_toArray, List.getElem_cons_zero, List.getElem_cons_succ]
    generalize hgB : wc.heap.size = gB at *
    generalize wc.alloc (.cells #[] 49) = wn at *
    clear xn
    obtain ⟨wc, rfl⟩ : ∃ x, x = wn := ⟨_, rfl⟩
    refine G_all (rs := [0, 8]) (by kernel_rfl) (by simp) ?_
    intro i hi; have hi' : i = 0 ∨ i = 8 := by simpa using hi
    clear hi; rcases hi' with rfl | rfl
    · refine wpOp_run rfl (by rfl) ?_
      go_simp
      have bA := heap_alloc_new wc (.cells #[] 5)
      have neA : B1 + 1 < wc.heap.size := by have := hHeld.size; omega
      have xn : Ext wc (wc.alloc (.cells #[] 5)) := (Ext.refl wc).alloc _
      have hHeld := hHeld.trans xn
      first | refine ⟨hHeld, ?_⟩ | refine ⟨fun _ => hHeld, ?_⟩
      try simp only [Act.put, List.setIfInBounds_toArray, List.set_cons_zero, List.set_cons_succ, List.getElem_toArray, List.getElem_cons_zero, List.getElem_cons_succ]
      generalize hgA : wc.heap.size = gA at *
      have bB := xn.keeps bB
      generalize wc.alloc (.cells #[] 5) = wn at *
      clear xn
      obtain ⟨wc, rfl⟩ : ∃ x, x = wn := ⟨_, rfl⟩
      refine G_all (rs := [3, 8]) (by kernel_rfl) (by simp) ?_
      intro i hi; have hi' : i = 3 ∨ i = 8 := by simpa using hi
      clear hi; rcases hi' with rfl | rfl
      · refine wpOp_run rfl (by rfl) ?_
        refine wp_app0O tyB (.tmp 3) (.tmp 5) rfl gA bA (by rfl) vb o.bytes.length (o.bytes.map bc) ((HA.out.ext hHeld).vb) (by rfl) (bc_one _) (by omega) (by omega) ?_
        intro uA wn iA xn offA
        have offA2 := offA (B1 + 1) (by omega) (by have := hHeld.size; omega)
        have offA := offA B1 (by omega) (by have := hHeld.size; omega)
        have hHeld := hHeld.trans xn
        first | refine ⟨hHeld, ?_⟩ | refine ⟨fun _ => hHeld, ?_⟩
        try simp only [Act.put, List.setIfInBounds_toArray, List.set_cons_zero, List.set_cons_succ, List.getElem_toArray, List.getElem_cons_zero, List.getElem_cons_succ]
        have bB := xn.keeps bB
        have bA := xn.keeps bA
        clear xn
        obtain ⟨wc, rfl⟩ : ∃ x, x = wn := ⟨_, rfl⟩
        refine G_take (i := 12) (u := ?vc28) rfl (by kernel_rfl) (by kernel_rfl) (by kernel_rfl) (fun _ _ _ h => h) rfl (by kernel_rfl) (by decide) (by rfl) (Or.inl ⟨by rfl, ?hyc28⟩) hHeld ?_
        case hyc28 => (intro w hSw; go_simp; try with_reducible rfl)
        simp only [Act.put, List.setIfInBounds_toArray, List.set_cons_zero, List.set_cons_succ, List.getElem_toArray, List.getElem_cons_zero, List.getElem_cons_succ]
        refine G_all (rs := [7, 8]) (by kernel_rfl) (by simp) ?_
        intro i hi; have hi' : i = 7 ∨ i = 8 := by simpa using hi
        clear hi; rcases hi' with rfl | rfl
        · refine wpOp_run rfl (by rfl) ?_
          refine wp_app0O tyE (.tmp 7) (.tmp 9) rfl gB bB (by rfl) ve o.ents.length (o.ents.flatMap entC) ((HA.out.ext hHeld).ve) (by rfl) (ents_one _) (by omega) (by omega) ?_
          intro uB wn iB xn offB
          have offB2 := offB (B1 + 1) (by omega) (by have := hHeld.size; omega)
          have offB := offB B1 (by omega) (by have := hHeld.size; omega)
          have hHeld := hHeld.trans xn
          first | refine ⟨hHeld, ?_⟩ | refine ⟨fun _ => hHeld, ?_⟩
          try simp only [Act.put, List.setIfInBounds_toArray, List.set_cons_zero, List.set_cons_succ, List.getElem_toArray, List.getElem_cons_zero, List.getElem_cons_succ]
          have bB := xn.keeps bB
          have iA := iA.ext xn
          clear xn
          obtain ⟨wc, rfl⟩ : ∃ x, x = wn := ⟨_, rfl⟩
          refine G_all (rs := [8]) (by kernel_rfl) (by simp) ?_
          intro i hi; obtain rfl : i = 8 := by simpa using hi
          refine wpOp_run rfl (by rfl) ?_
          go_simp
          have bC := heap_alloc_new wc (.cells #[] 25)
          have neC : B1 + 1 < wc.heap.size := by have := hHeld.size; omega
          have xn : Ext wc (wc.alloc (.cells #[] 25)) := (Ext.refl wc).alloc _
          have hHeld := hHeld.trans xn
          first | refine ⟨hHeld, ?_⟩ | refine ⟨fun _ => hHeld, ?_⟩
          try simp only [Act.put, List.setIfInBounds_toArray, List.set_cons_zero, List.set_cons_succ, List.getElem_toArray, List.getElem_cons_zero, List.getElem_cons_succ]
          generalize hgC : wc.heap.size = gC at *
          have iA := iA.ext xn
          have iB := iB.ext xn
          generalize wc.alloc (.cells #[] 25) = wn at *
          clear xn
          obtain ⟨wc, rfl⟩ : ∃ x, x = wn := ⟨_, rfl⟩
          refine G_all (rs := [11]) (by kernel_rfl) (by simp) ?_
          intro i hi; obtain rfl : i = 11 := by simpa using hi
          refine wpOp_run rfl (by rfl) ?_
          refine wp_app0O tyI (.tmp 11) (.tmp 13) rfl gC bC (by rfl) vp o.pars.length (o.pars.flatMap idC) ((HA.out.ext hHeld).vp) (by rfl) (ids_one _) (by omega) (by omega) ?_
          intro uC wn iC xn offC
          have offC2 := offC (B1 + 1) (by omega) (by have := hHeld.size; omega)
          have offC := offC B1 (by omega) (by have := hHeld.size; omega)
          have hHeld := hHeld.trans xn
          first | refine ⟨hHeld, ?_⟩ | refine ⟨fun _ => hHeld, ?_⟩
          try simp only [Act.put, List.setIfInBounds_toArray, List.set_cons_zero, List.set_cons_succ, List.getElem_toArray, List.getElem_cons_zero, List.getElem_cons_succ]
          have iA := iA.ext xn
          have iB := iB.ext xn
          have bC := xn.keeps bC
          clear xn
          obtain ⟨wc, rfl⟩ : ∃ x, x = wn := ⟨_, rfl⟩
          have bT := hHeld.keeps b1
          have bB := hHeld.keeps b2
          have X := X1.trans hHeld
          refine G_all (rs := [13]) (by kernel_rfl) (by simp) ?_
          intro i hi; obtain rfl : i = 13 := by simpa using hi
          refine wpOp_run rfl (by rfl) ?_
          obtain ⟨auA, kuA, rfl⟩ := sl_len iA
          have cc := (obj_at bT rfl ho).c1
          have ff := block_free bT 1
          have gr := grown_setCell wc B1 1 (.slice auA o.bytes.length kuA)
          have bN := block_setCell bT (i := 1) (.slice auA o.bytes.length kuA)
          rw [obj_set1 _ _ _ _ o o.bytes] at bN
          have iA := IsSl.other iA gr offA
          have iB := IsSl.other iB gr offB
          have iC := IsSl.other iC gr offC
          have X := X.grown gr (fun k hk => by simp at hk; omega)
          have bB := grown_other gr bB (by omega)
          go_simp
          try refine ⟨fun e => absurd e (by decide), ?_⟩
          refine G_free _ _ _ _ (by rfl) ?_
          try simp only [Act.put, List.setIfInBounds_toArray, List.set_cons_zero, List.set_cons_succ, List.getElem_toArray, List.getElem_cons_zero, List.getElem_cons_succ]
          generalize wc.setCell ⟨B1, 1, none⟩ (.slice auA o.bytes.length kuA) = wn at *
          clear cc ff gr bT
          have bT : wn.heap[B1]? = some (.cells (objC (.slice auA o.bytes.length kuA) ve vp o).toArray 29 (0, 0)) := bN
          clear bN
          obtain ⟨wc, rfl⟩ : ∃ x, x = wn := ⟨_, rfl⟩
          refine wpAny_take (i := 14) (v := ?vc29) rfl (by kernel_rfl) (by kernel_rfl) (by kernel_rfl) (fun _ _ _ h => h) (Or.inl ⟨by rfl, ?hyc29⟩) ?_
          case hyc29 => (intro w; go_simp; try with_reducible rfl)
          simp only [Act.put, List.setIfInBounds_toArray, List.set_cons_zero, List.set_cons_succ, List.getElem_toArray, List.getElem_cons_zero, List.getElem_cons_succ]
          refine wpAny_all (rs := [15]) (by kernel_rfl) (by simp) ?_
          intro i hi; obtain rfl : i = 15 := by simpa using hi
          refine wpOp_run rfl (by rfl) ?_
          obtain ⟨auB, kuB, rfl⟩ := sl_len iB
          have cc := (obj_at bT rfl ho).c2
          have ff := block_free bT 2
          have gr := grown_setCell wc B1 2 (.slice auB o.ents.length kuB)
          have bN := block_setCell bT (i := 2) (.slice auB o.ents.length kuB)
          rw [obj_set2 _ _ _ _ o o.ents] at bN
          have iA := IsSl.other iA gr offA
          have iB := IsSl.other iB gr offB
          have iC := IsSl.other iC gr offC
          have X := X.grown gr (fun k hk => by simp at hk; omega)
          have bB := grown_other gr bB (by omega)
          go_simp
          try simp only [Act.put, List.setIfInBounds_toArray, List.set_cons_zero, List.set_cons_succ, List.getElem_toArray, List.getElem_cons_zero, List.getElem_cons_succ]
          generalize wc.setCell ⟨B1, 2, none⟩ (.slice auB o.ents.length kuB) = wn at *
          clear cc ff gr bT
          have bT : wn.heap[B1]? = some (.cells (objC (.slice auA o.bytes.length kuA) (.slice auB o.ents.length kuB) vp o).toArray 29 (0, 0)) := bN
          clear bN
          obtain ⟨wc, rfl⟩ : ∃ x, x = wn := ⟨_, rfl⟩
          refine wpAny_take (i := 16) (v := ?vc30) rfl (by kernel_rfl) (by kernel_rfl) (by kernel_rfl) (fun _ _ _ h => h) (Or.inl ⟨by rfl, ?hyc30⟩) ?_
          case hyc30 => (intro w; go_simp; try with_reducible rfl)
          simp only [Act.put, List.setIfInBounds_toArray, List.set_cons_zero, List.set_cons_succ, List.getElem_toArray, List.getElem_cons_zero, List.getElem_cons_succ]
          refine wpAny_all (rs := [17]) (by kernel_rfl) (by simp) ?_
          intro i hi; obtain rfl : i = 17 := by simpa using hi
          refine wpOp_run rfl (by rfl) ?_
          obtain ⟨auC, kuC, rfl⟩ := sl_len iC
          have cc := (obj_at bT rfl ho).c4
          have ff := block_free bT 35
          have gr := grown_setCell wc B1 35 (.slice auC o.pars.length kuC)
          have bN := block_setCell bT (i := 35) (.slice auC o.pars.length kuC)
          rw [obj_set35 _ _ _ _ o o.pars ho.tree] at bN
          have iA := IsSl.other iA gr offA
          have iB := IsSl.other iB gr offB
          have iC := IsSl.other iC gr offC
          have X := X.grown gr (fun k hk => by simp at hk; omega)
          have bB := grown_other gr bB (by omega)
          go_simp
          try simp only [Act.put, List.setIfInBounds_toArray, List.set_cons_zero, List.set_cons_succ, List.getElem_toArray, List.getElem_cons_zero, List.getElem_cons_succ]
          generalize wc.setCell ⟨B1, 35, none⟩ (.slice auC o.pars.length kuC) = wn at *
          clear cc ff gr bT
          have bT : wn.heap[B1]? = some (.cells (objC (.slice auA o.bytes.length kuA) (.slice auB o.ents.length kuB) (.slice auC o.pars.length kuC) o).toArray 29 (0, 0)) := bN
          clear bN
          obtain ⟨wc, rfl⟩ : ∃ x, x = wn := ⟨_, rfl⟩
          refine wpAny_done (by kernel_rfl) ?_ _
          refine NoPanic.normal ?_
          have hO : IsObj wc (objC (.slice auA o.bytes.length kuA) (.slice auB o.ents.length kuB) (.slice auC o.pars.length kuC) o).toArray (.slice auA o.bytes.length kuA) (.slice auB o.ents.length kuB) (.slice auC o.pars.length kuC) o := ⟨rfl, ho, iA, iB, iC⟩
          have hfitO := hO.info
          have honeO := hO.one
          have hszO := hO.size
          have offA2 := offA2
          have hlast := hO
          clear hO iA iB iC
          generalize hQB : (objC (.slice auA o.bytes.length kuA) (.slice auB o.ents.length kuB) (.slice auC o.pars.length kuC) o).toArray = QB at *
          go_wp2_with (first
            | ((with_reducible refine at_load 29 (.tmp 1) ?_); refine wpl_load (by rfl) 29 (.tmp 1) rfl B1 (by rfl) 29 QB (0, 0) _ bT Tryd.underlying29 rfl hfitO ?_)
            | ((with_reducible refine at_store 29 (.tmp 2) (.tmp 18) ?_); refine wpl_store (by rfl) 29 (.tmp 2) (.tmp 18) rfl (B1 + 1) QB (by rfl) (by rfl) 29 _ bB hfitO (by rw [hszO]; rfl) honeO ?_))
          have hfin : (wc.setRow (B1 + 1) QB).heap[B1 + 1]? = some (.cells QB 29 (0, 0)) := setRow_heap _ _ _ _ _ _ bB
          refine bodyPost_ret (results_cell_row rfl _ _ (B1 + 1) _ _ _ _ (by rfl) hfin Tryd.underlying29 rfl hfitO) rfl ⟨QB, (.slice auA o.bytes.length kuA), (.slice auB o.ents.length kuB), (.slice auC o.pars.length kuC), rfl, ?_, X.grown grown_setRow' (fun k hk => by simp at hk; omega)⟩
          exact ⟨hlast.eq, hlast.ok, IsSl.other hlast.vb grown_setRow' offA2, IsSl.other hlast.ve grown_setRow' offB2, IsSl.other hlast.vp grown_setRow' offC2⟩
        · refine wpOp_run rfl (by rfl) ?_
          go_simp
          have bC := heap_alloc_new wc (.cells #[] 25)
          have neC : B1 + 1 < wc.heap.size := by have := hHeld.size; omega
          have xn : Ext wc (wc.alloc (.cells #[] 25)) := (Ext.refl wc).alloc _
          have hHeld := hHeld.trans xn
          first | refine ⟨hHeld, ?_⟩ | refine ⟨fun _ => hHeld, ?_⟩
          try simp only [Act.put, List.setIfInBounds_toArray, List.set_cons_zero, List.set_cons_succ, List.getElem_toArray, List.getElem_cons_zero, List.getElem_cons_succ]
          generalize hgC : wc.heap.size = gC at *
          have bB := xn.keeps bB
          have iA := iA.ext xn
          generalize wc.alloc (.cells #[] 25) = wn at *
          clear xn
          obtain ⟨wc, rfl⟩ : ∃ x, x = wn := ⟨_, rfl⟩
          refine G_all (rs := [7]) (by kernel_rfl) (by simp) ?_
          intro i hi; obtain rfl : i = 7 := by simpa using hi
          refine wpOp_run rfl (by rfl) ?_
          refine wp_app0O tyE (.tmp 7) (.tmp 9) rfl gB bB (by rfl) ve o.ents.length (o.ents.flatMap entC) ((HA.out.ext hHeld).ve) (by rfl) (ents_one _) (by omega) (by omega) ?_
          intro uB wn iB xn offB
          have offB2 := offB (B1 + 1) (by omega) (by have := hHeld.size; omega)
          have offB := offB B1 (by omega) (by have := hHeld.size; omega)
          have hHeld := hHeld.trans xn
          first | refine ⟨hHeld, ?_⟩ | refine ⟨fun _ => hHeld, ?_⟩
          try simp only [Act.put, List.setIfInBounds_toArray, List.set_cons_zero, List.set_cons_succ, List.getElem_toArray, List.getElem_cons_zero, List.getElem_cons_succ]
          have bB := xn.keeps bB
          have iA := iA.ext xn
          have bC := xn.keeps bC
          clear xn
          obtain ⟨wc, rfl⟩ : ∃ x, x = wn := ⟨_, rfl⟩
          refine G_all (rs := [11]) (by kernel_rfl) (by simp) ?_
          intro i hi; obtain rfl : i = 11 := by simpa using hi
          refine wpOp_run rfl (by rfl) ?_
          refine wp_app0O tyI (.tmp 11) (.tmp 13) rfl gC bC (by rfl) vp o.pars.length (o.pars.flatMap idC) ((HA.out.ext hHeld).vp) (by rfl) (ids_one _) (by omega) (by omega) ?_
          intro uC wn iC xn offC
          have offC2 := offC (B1 + 1) (by omega) (by have := hHeld.size; omega)
          have offC := offC B1 (by omega) (by have := hHeld.size; omega)
          have hHeld := hHeld.trans xn
          first | refine ⟨hHeld, ?_⟩ | refine ⟨fun _ => hHeld, ?_⟩
          try simp only [Act.put, List.setIfInBounds_toArray, List.set_cons_zero, List.set_cons_succ, List.getElem_toArray, List.getElem_cons_zero, List.getElem_cons_succ]
          have iA := iA.ext xn
          have bC := xn.keeps bC
          have iB := iB.ext xn
          clear xn
          obtain ⟨wc, rfl⟩ : ∃ x, x = wn := ⟨_, rfl⟩
          have bT := hHeld.keeps b1
          have bB := hHeld.keeps b2
          have X := X1.trans hHeld
          refine G_all (rs := [13]) (by kernel_rfl) (by simp) ?_
          intro i hi; obtain rfl : i = 13 := by simpa using hi
          refine wpOp_run rfl (by rfl) ?_
          obtain ⟨auA, kuA, rfl⟩ := sl_len iA
          have cc := (obj_at bT rfl ho).c1
          have ff := block_free bT 1
          have gr := grown_setCell wc B1 1 (.slice auA o.bytes.length kuA)
          have bN := block_setCell bT (i := 1) (.slice auA o.bytes.length kuA)
          rw [obj_set1 _ _ _ _ o o.bytes] at bN
          have iA := IsSl.other iA gr offA
          have iB := IsSl.other iB gr offB
          have iC := IsSl.other iC gr offC
          have X := X.grown gr (fun k hk => by simp at hk; omega)
          have bB := grown_other gr bB (by omega)
          go_simp
          try refine ⟨fun e => absurd e (by decide), ?_⟩
          refine G_free _ _ _ _ (by rfl) ?_
          try simp only [Act.put, List.setIfInBounds_toArray, List.set_cons_zero, List.set_cons_succ, List.getElem_toArray, List.getElem_cons_zero, List.getElem_cons_succ]
          generalize wc.setCell ⟨B1, 1, none⟩ (.slice auA o.bytes.length kuA) = wn at *
          clear cc ff gr bT
          have bT : wn.heap[B1]? = some (.cells (objC (.slice auA o.bytes.length kuA) ve vp o).toArray 29 (0, 0)) := bN
          clear bN
          obtain ⟨wc, rfl⟩ : ∃ x, x = wn := ⟨_, rfl⟩
          refine wpAny_take (i := 14) (v := ?vc31) rfl (by kernel_rfl) (by kernel_rfl) (by kernel_rfl) (fun _ _ _ h => h) (Or.inl ⟨by rfl, ?hyc31⟩) ?_
          case hyc31 => (intro w; go_simp; try with_reducible rfl)
          simp only [Act.put, List.setIfInBounds_toArray, List.set_cons_zero, List.set_cons_succ, List.getElem_toArray, List.getElem_cons_zero, List.getElem_cons_succ]
          refine wpAny_all (rs := [15]) (by kernel_rfl) (by simp) ?_
          intro i hi; obtain rfl : i = 15 := by simpa using hi
          refine wpOp_run rfl (by rfl) ?_
          obtain ⟨auB, kuB, rfl⟩ := sl_len iB
          have cc := (obj_at bT rfl ho).c2
          have ff := block_free bT 2
          have gr := grown_setCell wc B1 2 (.slice auB o.ents.length kuB)
          have bN := block_setCell bT (i := 2) (.slice auB o.ents.length kuB)
          rw [obj_set2 _ _ _ _ o o.ents] at bN
          have iA := IsSl.other iA gr offA
          have iB := IsSl.other iB gr offB
          have iC := IsSl.other iC gr offC
          have X := X.grown gr (fun k hk => by simp at hk; omega)
          have bB := grown_other gr bB (by omega)
          go_simp
          try simp only [Act.put, List.setIfInBounds_toArray, List.set_cons_zero, List.set_cons_succ, List.getElem_toArray, List.getElem_cons_zero, List.getElem_cons_succ]
          generalize wc.setCell ⟨B1, 2, none⟩ (.slice auB o.ents.length kuB) = wn at *
          clear cc ff gr bT
          have bT : wn.heap[B1]? = some (.cells (objC (.slice auA o.bytes.length kuA) (.slice auB o.ents.length kuB) vp o).toArray 29 (0, 0)) := bN
          clear bN
          obtain ⟨wc, rfl⟩ : ∃ x, x = wn := ⟨_, rfl⟩
          refine wpAny_take (i := 16) (v := ?vc32) rfl (by kernel_rfl) (by kernel_rfl) (by kernel_rfl) (fun _ _ _ h => h) (Or.inl ⟨by rfl, ?hyc32⟩) ?_
          case hyc32 => (intro w; go_simp; try with_reducible rfl)
          simp only [Act.put, List.setIfInBounds_toArray, List.set_cons_zero, List.set_cons_succ, List.getElem_toArray, List.getElem_cons_zero, List.getElem_cons_succ]
          refine wpAny_all (rs := [17]) (by kernel_rfl) (by simp) ?_
          intro i hi; obtain rfl : i = 17 := by simpa using hi
          refine wpOp_run rfl (by rfl) ?_
          obtain ⟨auC, kuC, rfl⟩ := sl_len iC
          have cc := (obj_at bT rfl ho).c4
          have ff := block_free bT 35
          have gr := grown_setCell wc B1 35 (.slice auC o.pars.length kuC)
          have bN := block_setCell bT (i := 35) (.slice auC o.pars.length kuC)
          rw [obj_set35 _ _ _ _ o o.pars ho.tree] at bN
          have iA := IsSl.other iA gr offA
          have iB := IsSl.other iB gr offB
          have iC := IsSl.other iC gr offC
          have X := X.grown gr (fun k hk => by simp at hk; omega)
          have bB := grown_other gr bB (by omega)
          go_simp
          try simp only [Act.put, List.setIfInBounds_toArray, List.set_cons_zero, List.set_cons_succ, List.getElem_toArray, List.getElem_cons_zero, List.getElem_cons_succ]
          generalize wc.setCell ⟨B1, 35, none⟩ (.slice auC o.pars.length kuC) = wn at *
          clear cc ff gr bT
          have bT : wn.heap[B1]? = some (.cells (objC (.slice auA o.bytes.length kuA) (.slice auB o.ents.length kuB) (.slice auC o.pars.length kuC) o).toArray 29 (0, 0)) := bN
          clear bN
          obtain ⟨wc, rfl⟩ : ∃ x, x = wn := ⟨_, rfl⟩
          refine wpAny_done (by kernel_rfl) ?_ _
          refine NoPanic.normal ?_
          have hO : IsObj wc (objC (.slice auA o.bytes.length kuA) (.slice auB o.ents.length kuB) (.slice auC o.pars.length kuC) o).toArray (.slice auA o.bytes.length kuA) (.slice auB o.ents.length kuB) (.slice auC o.pars.length kuC) o := ⟨rfl, ho, iA, iB, iC⟩
          have hfitO := hO.info
          have honeO := hO.one
          have hszO := hO.size
          have offA2 := offA2
          have hlast := hO
          clear hO iA iB iC
          generalize hQB : (objC (.slice auA o.bytes.length kuA) (.slice auB o.ents.length kuB) (.slice auC o.pars.length kuC) o).toArray = QB at *
          go_wp2_with (first
            | ((with_reducible refine at_load 29 (.tmp 1) ?_); refine wpl_load (by rfl) 29 (.tmp 1) rfl B1 (by rfl) 29 QB (0, 0) _ bT Tryd.underlying29 rfl hfitO ?_)
            | ((with_reducible refine at_store 29 (.tmp 2) (.tmp 18) ?_); refine wpl_store (by rfl) 29 (.tmp 2) (.tmp 18) rfl (B1 + 1) QB (by rfl) (by rfl) 29 _ bB hfitO (by rw [hszO]; rfl) honeO ?_))
          have hfin : (wc.setRow (B1 + 1) QB).heap[B1 + 1]? = some (.cells QB 29 (0, 0)) := setRow_heap _ _ _ _ _ _ bB
          refine bodyPost_ret (results_cell_row rfl _ _ (B1 + 1) _ _ _ _ (by rfl) hfin Tryd.underlying29 rfl hfitO) rfl ⟨QB, (.slice auA o.bytes.length kuA), (.slice auB o.ents.length kuB), (.slice auC o.pars.length kuC), rfl, ?_, X.grown grown_setRow' (fun k hk => by simp at hk; omega)⟩
          exact ⟨hlast.eq, hlast.ok, IsSl.other hlast.vb grown_setRow' offA2, IsSl.other hlast.ve grown_setRow' offB2, IsSl.other hlast.vp grown_setRow' offC2⟩
      · refine wpOp_run rfl (by rfl) ?_
        go_simp
        have bC := heap_alloc_new wc (.cells #[] 25)
        have neC : B1 + 1 < wc.heap.size := by have := hHeld.size; omega
        have xn : Ext wc (wc.alloc (.cells #[] 25)) := (Ext.refl wc).alloc _
        have hHeld := hHeld.trans xn
        first | refine ⟨hHeld, ?_⟩ | refine ⟨fun _ => hHeld, ?_⟩
        try simp only [Act.put, List.setIfInBounds_toArray, List.set_cons_zero, List.set_cons_succ, List.getElem_toArray, List.getElem_cons_zero, List.getElem_cons_succ]
        generalize hgC : wc.heap.size = gC at *
        have bB := xn.keeps bB
        have bA := xn.keeps bA
        generalize wc.alloc (.cells #[] 25) = wn at *
        clear xn
        obtain ⟨wc, rfl⟩ : ∃ x, x = wn := ⟨_, rfl⟩
        refine G_all (rs := [3]) (by kernel_rfl) (by simp) ?_
        intro i hi; obtain rfl : i = 3 := by simpa using hi
        refine wpOp_run rfl (by rfl) ?_
        refine wp_app0O tyB (.tmp 3) (.tmp 5) rfl gA bA (by rfl) vb o.bytes.length (o.bytes.map bc) ((HA.out.ext hHeld).vb) (by rfl) (bc_one _) (by omega) (by omega) ?_
        intro uA wn iA xn offA
        have offA2 := offA (B1 + 1) (by omega) (by have := hHeld.size; omega)
        have offA := offA B1 (by omega) (by have := hHeld.size; omega)
        have hHeld := hHeld.trans xn
        first | refine ⟨hHeld, ?_⟩ | refine ⟨fun _ => hHeld, ?_⟩
        try simp only [Act.put, List.setIfInBounds_toArray, List.set_cons_zero, List.set_cons_succ, List.getElem_toArray, List.getElem_cons_zero, List.getElem_cons_succ]
        have bB := xn.keeps bB
        have bA := xn.keeps bA
        have bC := xn.keeps bC
        clear xn
        obtain ⟨wc, rfl⟩ : ∃ x, x = wn := ⟨_, rfl⟩
        refine G_take (i := 12) (u := ?vc33) rfl (by kernel_rfl) (by kernel_rfl) (by kernel_rfl) (fun _ _ _ h => h) rfl (by kernel_rfl) (by decide) (by rfl) (Or.inl ⟨by rfl, ?hyc33⟩) hHeld ?_
        case hyc33 => (intro w hSw; go_simp; try with_reducible rfl)
        simp only [Act.put, List.setIfInBounds_toArray, List.set_cons_zero, List.set_cons_succ, List.getElem_toArray, List.getElem_cons_zero, List.getElem_cons_succ]
        refine G_all (rs := [7]) (by kernel_rfl) (by simp) ?_
        intro i hi; obtain rfl : i = 7 := by simpa using hi
        refine wpOp_run rfl (by rfl) ?_
        refine wp_app0O tyE (.tmp 7) (.tmp 9) rfl gB bB (by rfl) ve o.ents.length (o.ents.flatMap entC) ((HA.out.ext hHeld).ve) (by rfl) (ents_one _) (by omega) (by omega) ?_
        intro uB wn iB xn offB
        have offB2 := offB (B1 + 1) (by omega) (by have := hHeld.size; omega)
        have offB := offB B1 (by omega) (by have := hHeld.size; omega)
        have hHeld := hHeld.trans xn
        first | refine ⟨hHeld, ?_⟩ | refine ⟨fun _ => hHeld, ?_⟩
        try simp only [Act.put, List.setIfInBounds_toArray, List.set_cons_zero, List.set_cons_succ, List.getElem_toArray, List.getElem_cons_zero, List.getElem_cons_succ]
        have bB := xn.keeps bB
        have bC := xn.keeps bC
        have iA := iA.ext xn
        clear xn
        obtain ⟨wc, rfl⟩ : ∃ x, x = wn := ⟨_, rfl⟩
        refine G_all (rs := [11]) (by kernel_rfl) (by simp) ?_
        intro i hi; obtain rfl : i = 11 := by simpa using hi
        refine wpOp_run rfl (by rfl) ?_
        refine wp_app0O tyI (.tmp 11) (.tmp 13) rfl gC bC (by rfl) vp o.pars.length (o.pars.flatMap idC) ((HA.out.ext hHeld).vp) (by rfl) (ids_one _) (by omega) (by omega) ?_
        intro uC wn iC xn offC
        have offC2 := offC (B1 + 1) (by omega) (by have := hHeld.size; omega)
        have offC := offC B1 (by omega) (by have := hHeld.size; omega)
        have hHeld := hHeld.trans xn
        first | refine ⟨hHeld, ?_⟩ | refine ⟨fun _ => hHeld, ?_⟩
        try simp only [Act.put, List.setIfInBounds_toArray, List.set_cons_zero, List.set_cons_succ, List.getElem_toArray, List.getElem_cons_zero, List.getElem_cons_succ]
        have bC := xn.keeps bC
        have iA := iA.ext xn
        have iB := iB.ext xn
        clear xn
        obtain ⟨wc, rfl⟩ : ∃ x, x = wn := ⟨_, rfl⟩
        have bT := hHeld.keeps b1
        have bB := hHeld.keeps b2
        have X := X1.trans hHeld
        refine G_all (rs := [13]) (by kernel_rfl) (by simp) ?_
        intro i hi; obtain rfl : i = 13 := by simpa using hi
        refine wpOp_run rfl (by rfl) ?_
        obtain ⟨auA, kuA, rfl⟩ := sl_len iA
        have cc := (obj_at bT rfl ho).c1
        have ff := block_free bT 1
        have gr := grown_setCell wc B1 1 (.slice auA o.bytes.length kuA)
        have bN := block_setCell bT (i := 1) (.slice auA o.bytes.length kuA)
        rw [obj_set1 _ _ _ _ o o.bytes] at bN
        have iA := IsSl.other iA gr offA
        have iB := IsSl.other iB gr offB
        have iC := IsSl.other iC gr offC
        have X := X.grown gr (fun k hk => by simp at hk; omega)
        have bB := grown_other gr bB (by omega)
        go_simp
        try refine ⟨fun e => absurd e (by decide), ?_⟩
        refine G_free _ _ _ _ (by rfl) ?_
        try simp only [Act.put, List.setIfInBounds_toArray, List.set_cons_zero, List.set_cons_succ, List.getElem_toArray, List.getElem_cons_zero, List.getElem_cons_succ]
        generalize wc.setCell ⟨B1, 1, none⟩ (.slice auA o.bytes.length kuA) = wn at *
        clear cc ff gr bT
        have bT : wn.heap[B1]? = some (.cells (objC (.slice auA o.bytes.length kuA) ve vp o).toArray 29 (0, 0)) := bN
        clear bN
        obtain ⟨wc, rfl⟩ : ∃ x, x = wn := ⟨_, rfl⟩
        refine wpAny_take (i := 14) (v := ?vc34) rfl (by kernel_rfl) (by kernel_rfl) (by kernel_rfl) (fun _ _ _ h => h) (Or.inl ⟨by rfl, ?hyc34⟩) ?_
        case hyc34 => (intro w; go_simp; try with_reducible rfl)
        simp only [Act.put, List.setIfInBounds_toArray, List.set_cons_zero, List.set_cons_succ, List.getElem_toArray, List.getElem_cons_zero, List.getElem_cons_succ]
        refine wpAny_all (rs := [15]) (by kernel_rfl) (by simp) ?_
        intro i hi; obtain rfl : i = 15 := by simpa using hi
        refine wpOp_run rfl (by rfl) ?_
        obtain ⟨auB, kuB, rfl⟩ := sl_len iB
        have cc := (obj_at bT rfl ho).c2
        have ff := block_free bT 2
        have gr := grown_setCell wc B1 2 (.slice auB o.ents.length kuB)
        have bN := block_setCell bT (i := 2) (.slice auB o.ents.length kuB)
        rw [obj_set2 _ _ _ _ o o.ents] at bN
        have iA := IsSl.other iA gr offA
        have iB := IsSl.other iB gr offB
        have iC := IsSl.other iC gr offC
        have X := X.grown gr (fun k hk => by simp at hk; omega)
        have bB := grown_other gr bB (by omega)
        go_simp
        try simp only [Act.put, List.setIfInBounds_toArray, List.set_cons_zero, List.set_cons_succ, List.getElem_toArray, List.getElem_cons_zero, List.getElem_cons_succ]
        generalize wc.setCell ⟨B1, 2, none⟩ (.slice auB o.ents.length kuB) = wn at *
        clear cc ff gr bT
        have bT : wn.heap[B1]? = some (.cells (objC (.slice auA o.bytes.length kuA) (.slice auB o.ents.length kuB) vp o).toArray 29 (0, 0)) := bN
        clear bN
        obtain ⟨wc, rfl⟩ : ∃ x, x = wn := ⟨_, rfl⟩
        refine wpAny_take (i := 16) (v := ?vc35) rfl (by kernel_rfl) (by kernel_rfl) (by kernel_rfl) (fun _ _ _ h => h) (Or.inl ⟨by rfl, ?hyc35⟩) ?_
        case hyc35 => (intro w; go_simp; try with_reducible rfl)
        simp only [Act.put, List.setIfInBounds_toArray, List.set_cons_zero, List.set_cons_succ, List.getElem_toArray, List.getElem_cons_zero, List.getElem_cons_succ]
        refine wpAny_all (rs := [17]) (by kernel_rfl) (by simp) ?_
        intro i hi; obtain rfl : i = 17 := by simpa using hi
        refine wpOp_run rfl (by rfl) ?_
        obtain ⟨auC, kuC, rfl⟩ := sl_len iC
        have cc := (obj_at bT rfl ho).c4
        have ff := block_free bT 35
        have gr := grown_setCell wc B1 35 (.slice auC o.pars.length kuC)
        have bN := block_setCell bT (i := 35) (.slice auC o.pars.length kuC)
        rw [obj_set35 _ _ _ _ o o.pars ho.tree] at bN
        have iA := IsSl.other iA gr offA
        have iB := IsSl.other iB gr offB
        have iC := IsSl.other iC gr offC
        have X := X.grown gr (fun k hk => by simp at hk; omega)
        have bB := grown_other gr bB (by omega)
        go_simp
        try simp only [Act.put, List.setIfInBounds_toArray, List.set_cons_zero, List.set_cons_succ, List.getElem_toArray, List.getElem_cons_zero, List.getElem_cons_succ]
        generalize wc.setCell ⟨B1, 35, none⟩ (.slice auC o.pars.length kuC) = wn at *
        clear cc ff gr bT
        have bT : wn.heap[B1]? = some (.cells (objC (.slice auA o.bytes.length kuA) (.slice auB o.ents.length kuB) (.slice auC o.pars.length kuC) o).toArray 29 (0, 0)) := bN
        clear bN
        obtain ⟨wc, rfl⟩ : ∃ x, x = wn := ⟨_, rfl⟩
        refine wpAny_done (by kernel_rfl) ?_ _
        refine NoPanic.normal ?_
        have hO : IsObj wc (objC (.slice auA o.bytes.length kuA) (.slice auB o.ents.length kuB) (.slice auC o.pars.length kuC) o).toArray (.slice auA o.bytes.length kuA) (.slice auB o.ents.length kuB) (.slice auC o.pars.length kuC) o := ⟨rfl, ho, iA, iB, iC⟩
        have hfitO := hO.info
        have honeO := hO.one
        have hszO := hO.size
        have offA2 := offA2
        have hlast := hO
        clear hO iA iB iC
        generalize hQB : (objC (.slice auA o.bytes.length kuA) (.slice auB o.ents.length kuB) (.slice auC o.pars.length kuC) o).toArray = QB at *
        go_wp2_with (first
          | ((with_reducible refine at_load 29 (.tmp 1) ?_); refine wpl_load (by rfl) 29 (.tmp 1) rfl B1 (by rfl) 29 QB (0, 0) _ bT Tryd.underlying29 rfl hfitO ?_)
          | ((with_reducible refine at_store 29 (.tmp 2) (.tmp 18) ?_); refine wpl_store (by rfl) 29 (.tmp 2) (.tmp 18) rfl (B1 + 1) QB (by rfl) (by rfl) 29 _ bB hfitO (by rw [hszO]; rfl) honeO ?_))
        have hfin : (wc.setRow (B1 + 1) QB).heap[B1 + 1]? = some (.cells QB 29 (0, 0)) := setRow_heap _ _ _ _ _ _ bB
        refine bodyPost_ret (results_cell_row rfl _ _ (B1 + 1) _ _ _ _ (by rfl) hfin Tryd.underlying29 rfl hfitO) rfl ⟨QB, (.slice auA o.bytes.length kuA), (.slice auB o.ents.length kuB), (.slice auC o.pars.length kuC), rfl, ?_, X.grown grown_setRow' (fun k hk => by simp at hk; omega)⟩
        exact ⟨hlast.eq, hlast.ok, IsSl.other hlast.vb grown_setRow' offA2, IsSl.other hlast.ve grown_setRow' offB2, IsSl.other hlast.vp grown_setRow' offC2⟩
    · refine wpOp_run rfl (by rfl) ?_
      go_simp
      have bC := heap_alloc_new wc (.cells #[] 25)
      have neC : B1 + 1 < wc.heap.size := by have := hHeld.size; omega
      have xn : Ext wc (wc.alloc (.cells #[] 25)) := (Ext.refl wc).alloc _
      have hHeld := hHeld.trans xn
      first | refine ⟨hHeld, ?_⟩ | refine ⟨fun _ => hHeld, ?_⟩
      try simp only [Act.put, List.setIfInBounds_toArray, List.set_cons_zero, List.set_cons_succ, List.getElem_toArray, List.getElem_cons_zero, List.getElem_cons_succ]
      generalize hgC : wc.heap.size = gC at *
      have bB := xn.keeps bB
      generalize wc.alloc (.cells #[] 25) = wn at *
      clear xn
      obtain ⟨wc, rfl⟩ : ∃ x, x = wn := ⟨_, rfl⟩
      refine G_all (rs := [0]) (by kernel_rfl) (by simp) ?_
      intro i hi; obtain rfl : i = 0 := by simpa using hi
      refine wpOp_run rfl (by rfl) ?_
      go_simp
      have bA := heap_alloc_new wc (.cells #[] 5)
      have neA : B1 + 1 < wc.heap.size := by have := hHeld.size; omega
      have xn : Ext wc (wc.alloc (.cells #[] 5)) := (Ext.refl wc).alloc _
      have hHeld := hHeld.trans xn
      first | refine ⟨hHeld, ?_⟩ | refine ⟨fun _ => hHeld, ?_⟩
      try simp only [Act.put, List.setIfInBounds_toArray, List.set_cons_zero, List.set_cons_succ, List.getElem_toArray, List.getElem_cons_zero, List.getElem_cons_succ]
      generalize hgA : wc.heap.size = gA at *
      have bB := xn.keeps bB
      have bC := xn.keeps bC
      generalize wc.alloc (.cells #[] 5) = wn at *
      clear xn
      obtain ⟨wc, rfl⟩ : ∃ x, x = wn := ⟨_, rfl⟩
      refine G_all (rs := [3]) (by kernel_rfl) (by simp) ?_
      intro i hi; obtain rfl : i = 3 := by simpa using hi
      refine wpOp_run rfl (by rfl) ?_
      refine wp_app0O tyB (.tmp 3) (.tmp 5) rfl gA bA (by rfl) vb o.bytes.length (o.bytes.map bc) ((HA.out.ext hHeld).vb) (by rfl) (bc_one _) (by omega) (by omega) ?_
      intro uA wn iA xn offA
      have offA2 := offA (B1 + 1) (by omega) (by have := hHeld.size; omega)
      have offA := offA B1 (by omega) (by have := hHeld.size; omega)
      have hHeld := hHeld.trans xn
      first | refine ⟨hHeld, ?_⟩ | refine ⟨fun _ => hHeld, ?_⟩
      try simp only [Act.put, List.setIfInBounds_toArray, List.set_cons_zero, List.set_cons_succ, List.getElem_toArray, List.getElem_cons_zero, List.getElem_cons_succ]
      have bB := xn.keeps bB
      have bC := xn.keeps bC
      have bA := xn.keeps bA
      clear xn
      obtain ⟨wc, rfl⟩ : ∃ x, x = wn := ⟨_, rfl⟩
      refine G_take (i := 12) (u := ?vc36) rfl (by kernel_rfl) (by kernel_rfl) (by kernel_rfl) (fun _ _ _ h => h) rfl (by kernel_rfl) (by decide) (by rfl) (Or.inl ⟨by rfl, ?hyc36⟩) hHeld ?_
      case hyc36 => (intro w hSw; go_simp; try with_reducible rfl)
      simp only [Act.put, List.setIfInBounds_toArray, List.set_cons_zero, List.set_cons_succ, List.getElem_toArray, List.getElem_cons_zero, List.getElem_cons_succ]
      refine G_all (rs := [7]) (by kernel_rfl) (by simp) ?_
      intro i hi; obtain rfl : i = 7 := by simpa using hi
      refine wpOp_run rfl (by rfl) ?_
      refine wp_app0O tyE (.tmp 7) (.tmp 9) rfl gB bB (by rfl) ve o.ents.length (o.ents.flatMap entC) ((HA.out.ext hHeld).ve) (by rfl) (ents_one _) (by omega) (by omega) ?_
      intro uB wn iB xn offB
      have offB2 := offB (B1 + 1) (by omega) (by have := hHeld.size; omega)
      have offB := offB B1 (by omega) (by have := hHeld.size; omega)
      have hHeld := hHeld.trans xn
      first | refine ⟨hHeld, ?_⟩ | refine ⟨fun _ => hHeld, ?_⟩
      try simp only [Act.put, List.setIfInBounds_toArray, List.set_cons_zero, List.set_cons_succ, List.getElem_toArray, List.getElem_cons_zero, List.getElem_cons_succ]
      have bB := xn.keeps bB
      have bC := xn.keeps bC
      have iA := iA.ext xn
      clear xn
      obtain ⟨wc, rfl⟩ : ∃ x, x = wn := ⟨_, rfl⟩
      refine G_all (rs := [11]) (by kernel_rfl) (by simp) ?_
      intro i hi; obtain rfl : i = 11 := by simpa using hi
      refine wpOp_run rfl (by rfl) ?_
      refine wp_app0O tyI (.tmp 11) (.tmp 13) rfl gC bC (by rfl) vp o.pars.length (o.pars.flatMap idC) ((HA.out.ext hHeld).vp) (by rfl) (ids_one _) (by omega) (by omega) ?_
      intro uC wn iC xn offC
      have offC2 := offC (B1 + 1) (by omega) (by have := hHeld.size; omega)
      have offC := offC B1 (by omega) (by have := hHeld.size; omega)
      have hHeld := hHeld.trans xn
      first | refine ⟨hHeld, ?_⟩ | refine ⟨fun _ => hHeld, ?_⟩
      try simp only [Act.put, List.setIfInBounds_toArray, List.set_cons_zero, List.set_cons_succ, List.getElem_toArray, List.getElem_cons_zero, List.getElem_cons_succ]
      have bC := xn.keeps bC
      have iA := iA.ext xn
      have iB := iB.ext xn
      clear xn
      obtain ⟨wc, rfl⟩ : ∃ x, x = wn := ⟨_, rfl⟩
      have bT := hHeld.keeps b1
      have bB := hHeld.keeps b2
      have X := X1.trans hHeld
      refine G_all (rs := [13]) (by kernel_rfl) (by simp) ?_
      intro i hi; obtain rfl : i = 13 := by simpa using hi
      refine wpOp_run rfl (by rfl) ?_
      obtain ⟨auA, kuA, rfl⟩ := sl_len iA
      have cc := (obj_at bT rfl ho).c1
      have ff := block_free bT 1
      have gr := grown_setCell wc B1 1 (.slice auA o.bytes.length kuA)
      have bN := block_setCell bT (i := 1) (.slice auA o.bytes.length kuA)
      rw [obj_set1 _ _ _ _ o o.bytes] at bN
      have iA := IsSl.other iA gr offA
      have iB := IsSl.other iB gr offB
      have iC := IsSl.other iC gr offC
      have X := X.grown gr (fun k hk => by simp at hk; omega)
      have bB := grown_other gr bB (by omega)
      go_simp
      try refine ⟨fun e => absurd e (by decide), ?_⟩
      refine G_free _ _ _ _ (by rfl) ?_
      try simp only [Act.put, List.setIfInBounds_toArray, List.set_cons_zero, List.set_cons_succ, List.getElem_toArray, List.getElem_cons_zero, List.getElem_cons_succ]
      generalize wc.setCell ⟨B1, 1, none⟩ (.slice auA o.bytes.length kuA) = wn at *
      clear cc ff gr bT
      have bT : wn.heap[B1]? = some (.cells (objC (.slice auA o.bytes.length kuA) ve vp o).toArray 29 (0, 0)) := bN
      clear bN
      obtain ⟨wc, rfl⟩ : ∃ x, x = wn := ⟨_, rfl⟩
      refine wpAny_take (i := 14) (v := ?vc37) rfl (by kernel_rfl) (by kernel_rfl) (by kernel_rfl) (fun _ _ _ h => h) (Or.inl ⟨by rfl, ?hyc37⟩) ?_
      case hyc37 => (intro w; go_simp; try with_reducible rfl)
      simp only [Act.put, List.setIfInBounds_toArray, List.set_cons_zero, List.set_cons_succ, List.getElem_toArray, List.getElem_cons_zero, List.getElem_cons_succ]
      refine wpAny_all (rs := [15]) (by kernel_rfl) (by simp) ?_
      intro i hi; obtain rfl : i = 15 := by simpa using hi
      refine wpOp_run rfl (by rfl) ?_
      obtain ⟨auB, kuB, rfl⟩ := sl_len iB
      have cc := (obj_at bT rfl ho).c2
      have ff := block_free bT 2
      have gr := grown_setCell wc B1 2 (.slice auB o.ents.length kuB)
      have bN := block_setCell bT (i := 2) (.slice auB o.ents.length kuB)
      rw [obj_set2 _ _ _ _ o o.ents] at bN
      have iA := IsSl.other iA gr offA
      have iB := IsSl.other iB gr offB
      have iC := IsSl.other iC gr offC
      have X := X.grown gr (fun k hk => by simp at hk; omega)
      have bB := grown_other gr bB (by omega)
      go_simp
      try simp only [Act.put, List.setIfInBounds_toArray, List.set_cons_zero, List.set_cons_succ, List.getElem_toArray, List.getElem_cons_zero, List.getElem_cons_succ]
      generalize wc.setCell ⟨B1, 2, none⟩ (.slice auB o.ents.length kuB) = wn at *
      clear cc ff gr bT
      have bT : wn.heap[B1]? = some (.cells (objC (.slice auA o.bytes.length kuA) (.slice auB o.ents.length kuB) vp o).toArray 29 (0, 0)) := bN
      clear bN
      obtain ⟨wc, rfl⟩ : ∃ x, x = wn := ⟨_, rfl⟩
      refine wpAny_take (i := 16) (v := ?vc38) rfl (by kernel_rfl) (by kernel_rfl) (by kernel_rfl) (fun _ _ _ h => h) (Or.inl ⟨by rfl, ?hyc38⟩) ?_
      case hyc38 => (intro w; go_simp; try with_reducible rfl)
      simp only [Act.put, List.setIfInBounds_toArray, List.set_cons_zero, List.set_cons_succ, List.getElem_toArray, List.getElem_cons_zero, List.getElem_cons_succ]
      refine wpAny_all (rs := [17]) (by kernel_rfl) (by simp) ?_
      intro i hi; obtain rfl : i = 17 := by simpa using hi
      refine wpOp_run rfl (by rfl) ?_
      obtain ⟨auC, kuC, rfl⟩ := sl_len iC
      have cc := (obj_at bT rfl ho).c4
      have ff := block_free bT 35
      have gr := grown_setCell wc B1 35 (.slice auC o.pars.length kuC)
      have bN := block_setCell bT (i := 35) (.slice auC o.pars.length kuC)
      rw [obj_set35 _ _ _ _ o o.pars ho.tree] at bN
      have iA := IsSl.other iA gr offA
      have iB := IsSl.other iB gr offB
      have iC := IsSl.other iC gr offC
      have X := X.grown gr (fun k hk => by simp at hk; omega)
      have bB := grown_other gr bB (by omega)
      go_simp
      try simp only [Act.put, List.setIfInBounds_toArray, List.set_cons_zero, List.set_cons_succ, List.getElem_toArray, List.getElem_cons_zero, List.getElem_cons_succ]
      generalize wc.setCell ⟨B1, 35, none⟩ (.slice auC o.pars.length kuC) = wn at *
      clear cc ff gr bT
      have bT : wn.heap[B1]? = some (.cells (objC (.slice auA o.bytes.length kuA) (.slice auB o.ents.length kuB) (.slice auC o.pars.length kuC) o).toArray 29 (0, 0)) := bN
      clear bN
      obtain ⟨wc, rfl⟩ : ∃ x, x = wn := ⟨_, rfl⟩
      refine wpAny_done (by kernel_rfl) ?_ _
      refine NoPanic.normal ?_
      have hO : IsObj wc (objC (.slice auA o.bytes.length kuA) (.slice auB o.ents.length kuB) (.slice auC o.pars.length kuC) o).toArray (.slice auA o.bytes.length kuA) (.slice auB o.ents.length kuB) (.slice auC o.pars.length kuC) o := ⟨rfl, ho, iA, iB, iC⟩
      have hfitO := hO.info
      have honeO := hO.one
      have hszO := hO.size
      have offA2 := offA2
      have hlast := hO
      clear hO iA iB iC
      generalize hQB : (objC (.slice auA o.bytes.length kuA) (.slice auB o.ents.length kuB) (.slice auC o.pars.length kuC) o).toArray = QB at *
      go_wp2_with (first
        | ((with_reducible refine at_load 29 (.tmp 1) ?_); refine wpl_load (by rfl) 29 (.tmp 1) rfl B1 (by rfl) 29 QB (0, 0) _ bT Tryd.underlying29 rfl hfitO ?_)
        | ((with_reducible refine at_store 29 (.tmp 2) (.tmp 18) ?_); refine wpl_store (by rfl) 29 (.tmp 2) (.tmp 18) rfl (B1 + 1) QB (by rfl) (by rfl) 29 _ bB hfitO (by rw [hszO]; rfl) honeO ?_))
      have hfin : (wc.setRow (B1 + 1) QB).heap[B1 + 1]? = some (.cells QB 29 (0, 0)) := setRow_heap _ _ _ _ _ _ bB
      refine bodyPost_ret (results_cell_row rfl _ _ (B1 + 1) _ _ _ _ (by rfl) hfin Tryd.underlying29 rfl hfitO) rfl ⟨QB, (.slice auA o.bytes.length kuA), (.slice auB o.ents.length kuB), (.slice auC o.pars.length kuC), rfl, ?_, X.grown grown_setRow' (fun k hk => by simp at hk; omega)⟩
      exact ⟨hlast.eq, hlast.ok, IsSl.other hlast.vb grown_setRow' offA2, IsSl.other hlast.ve grown_setRow' offB2, IsSl.other hlast.vp grown_setRow' offC2⟩
  · refine wpOp_run rfl (by rfl) ?_
    go_simp
    have bC := heap_alloc_new wc (.cells #[] 25)
    have neC : B1 + 1 < wc.heap.size := by have := hHeld.size; omega
    have xn : Ext wc (wc.alloc (.cells #[] 25)) := (Ext.refl wc).alloc _
    have hHeld := hHeld.trans xn
    first | refine ⟨hHeld, ?_⟩ | refine ⟨fun _ => hHeld, ?_⟩
    try simp only [Act.put, List.setIfInBounds_toArray, List.set_cons_zero, List.set_cons_succ, List.getElem_toArray, List.getElem_cons_zero, List.getElem_cons_succ]
    generalize hgC : wc.heap.size = gC at *
    generalize wc.alloc (.cells #[] 25) = wn at *
    clear xn
    obtain ⟨wc, rfl⟩ : ∃ x, x = wn := ⟨_, rfl⟩
    refine G_all (rs := [0, 4]) (by kernel_rfl) (by simp) ?_
    intro i hi; have hi' : i = 0 ∨ i = 4 := by simpa using hi
    clear hi; rcases hi' with rfl | rfl
    · refine wpOp_run rfl (by rfl) ?_
      go_simp
      have bA := heap_alloc_new wc (.cells #[] 5)
      have neA : B1 + 1 < wc.heap.size := by have := hHeld.size; omega
      have xn : Ext wc (wc.alloc (.cells #[] 5)) := (Ext.refl wc).alloc _
      have hHeld := hHeld.trans xn
      first | refine ⟨hHeld, ?_⟩ | refine ⟨fun _ => hHeld, ?_⟩
      try simp only [Act.put, List.setIfInBounds_toArray, List.set_cons_zero, List.set_cons_succ, List.getElem_toArray, List.getElem_cons_zero, List.getElem_cons_succ]
      generalize hgA : wc.heap.size = gA at *
      have bC := xn.keeps bC
      generalize wc.alloc (.cells #[] 5) = wn at *
      clear xn
      obtain ⟨wc, rfl⟩ : ∃ x, x = wn := ⟨_, rfl⟩
      refine G_all (rs := [3, 4]) (by kernel_rfl) (by simp) ?_
      intro i hi; have hi' : i = 3 ∨ i = 4 := by simpa using hi
      clear hi; rcases hi' with rfl | rfl
      · refine wpOp_run rfl (by rfl) ?_
        refine wp_app0O tyB (.tmp 3) (.tmp 5) rfl gA bA (by rfl) vb o.bytes.length (o.bytes.map bc) ((HA.out.ext hHeld).vb) (by rfl) (bc_one _) (by omega) (by omega) ?_
        intro uA wn iA xn offA
        have offA2 := offA (B1 + 1) (by omega) (by have := hHeld.size; omega)
        have offA := offA B1 (by omega) (by have := hHeld.size; omega)
        have hHeld := hHeld.trans xn
        first | refine ⟨hHeld, ?_⟩ | refine ⟨fun _ => hHeld, ?_⟩
        try simp only [Act.put, List.setIfInBounds_toArray, List.set_cons_zero, List.set_cons_succ, List.getElem_toArray, List.getElem_cons_zero, List.getElem_cons_succ]
        have bC := xn.keeps bC
        have bA := xn.keeps bA
        clear xn
        obtain ⟨wc, rfl⟩ : ∃ x, x = wn := ⟨_, rfl⟩
        refine G_take (i := 12) (u := ?vc39) rfl (by kernel_rfl) (by kernel_rfl) (by kernel_rfl) (fun _ _ _ h => h) rfl (by kernel_rfl) (by decide) (by rfl) (Or.inl ⟨by rfl, ?hyc39⟩) hHeld ?_
        case hyc39 => (intro w hSw; go_simp; try with_reducible rfl)
        simp only [Act.put, List.setIfInBounds_toArray, List.set_cons_zero, List.set_cons_succ, List.getElem_toArray, List.getElem_cons_zero, List.getElem_cons_succ]
        refine G_all (rs := [4]) (by kernel_rfl) (by simp) ?_
        intro i hi; obtain rfl : i = 4 := by simpa using hi
        refine wpOp_run rfl (by rfl) ?_
        go_simp
        have bB := heap_alloc_new wc (.cells #[] 49)
        have neB : B1 + 1 < wc.heap.size := by have := hHeld.size; omega
        have xn : Ext wc (wc.alloc (.cells #[] 49)) := (Ext.refl wc).alloc _
        have hHeld := hHeld.trans xn
        first | refine ⟨hHeld, ?_⟩ | refine ⟨fun _ => hHeld, ?_⟩
        try simp only [Act.put, List.setIfInBounds_toArray, List.set_cons_zero, List.set_cons_succ, List.getElem_toArray, List.getElem_cons_zero, List.getElem_cons_succ]
        generalize hgB : wc.heap.size = gB at *
        have bC := xn.keeps bC
        have iA := iA.ext xn
        generalize wc.alloc (.cells #[] 49) = wn at *
        clear xn
        obtain ⟨wc, rfl⟩ : ∃ x, x = wn := ⟨_, rfl⟩
        refine G_all (rs := [7]) (by kernel_rfl) (by simp) ?_
        intro i hi; obtain rfl : i = 7 := by simpa using hi
        refine wpOp_run rfl (by rfl) ?_
        refine wp_app0O tyE (.tmp 7) (.tmp 9) rfl gB bB (by rfl) ve o.ents.length (o.ents.flatMap entC) ((HA.out.ext hHeld).ve) (by rfl) (ents_one _) (by omega) (by omega) ?_
        intro uB wn iB xn offB
        have offB2 := offB (B1 + 1) (by omega) (by have := hHeld.size; omega)
        have offB := offB B1 (by omega) (by have := hHeld.size; omega)
        have hHeld := hHeld.trans xn
        first | refine ⟨hHeld, ?_⟩ | refine ⟨fun _ => hHeld, ?_⟩
        try simp only [Act.put, List.setIfInBounds_toArray, List.set_cons_zero, List.set_cons_succ, List.getElem_toArray, List.getElem_cons_zero, List.getElem_cons_succ]
        have bC := xn.keeps bC
        have iA := iA.ext xn
        have bB := xn.keeps bB
        clear xn
        obtain ⟨wc, rfl⟩ : ∃ x, x = wn := ⟨_, rfl⟩
        refine G_all (rs := [11]) (by kernel_rfl) (by simp) ?_
        intro i hi; obtain rfl : i = 11 := by simpa using hi
        refine wpOp_run rfl (by rfl) ?_
        refine wp_app0O tyI (.tmp 11) (.tmp 13) rfl gC bC (by rfl) vp o.pars.length (o.pars.flatMap idC) ((HA.out.ext hHeld).vp) (by rfl) (ids_one _) (by omega) (by omega) ?_
        intro uC wn iC xn offC
        have offC2 := offC (B1 + 1) (by omega) (by have := hHeld.size; omega)
        have offC := offC B1 (by omega) (by have := hHeld.size; omega)
        have hHeld := hHeld.trans xn
        first | refine ⟨hHeld, ?_⟩ | refine ⟨fun _ => hHeld, ?_⟩
        try simp only [Act.put, List.setIfInBounds_toArray, List.set_cons_zero, List.set_cons_succ, List.getElem_toArray, List.getElem_cons_zero, List.getElem_cons_succ]
        have bC := xn.keeps bC
        have iA := iA.ext xn
        have iB := iB.ext xn
        clear xn
        obtain ⟨wc, rfl⟩ : ∃ x, x = wn := ⟨_, rfl⟩
        have bT := hHeld.keeps b1
        have bB := hHeld.keeps b2
        have X := X1.trans hHeld
        refine G_all (rs := [13]) (by kernel_rfl) (by simp) ?_
        intro i hi; obtain rfl : i = 13 := by simpa using hi
        refine wpOp_run rfl (by rfl) ?_
        obtain ⟨auA, kuA, rfl⟩ := sl_len iA
        have cc := (obj_at bT rfl ho).c1
        have ff := block_free bT 1
        have gr := grown_setCell wc B1 1 (.slice auA o.bytes.length kuA)
        have bN := block_setCell bT (i := 1) (.slice auA o.bytes.length kuA)
        rw [obj_set1 _ _ _ _ o o.bytes] at bN
        have iA := IsSl.other iA gr offA
        have iB := IsSl.other iB gr offB
        have iC := IsSl.other iC gr offC
        have X := X.grown gr (fun k hk => by simp at hk; omega)
        have bB := grown_other gr bB (by omega)
        go_simp
        try refine ⟨fun e => absurd e (by decide), ?_⟩
        refine G_free _ _ _ _ (by rfl) ?_
        try simp only [Act.put, List.setIfInBounds_toArray, List.set_cons_zero, List.set_cons_succ, List.getElem_toArray, List.getElem_cons_zero, List.getElem_cons_succ]
        generalize wc.setCell ⟨B1, 1, none⟩ (.slice auA o.bytes.length kuA) = wn at *
        clear cc ff gr bT
        have bT : wn.heap[B1]? = some (.cells (objC (.slice auA o.bytes.length kuA) ve vp o).toArray 29 (0, 0)) := bN
        clear bN
        obtain ⟨wc, rfl⟩ : ∃ x, x = wn := ⟨_, rfl⟩
        refine wpAny_take (i := 14) (v := ?vc40) rfl (by kernel_rfl) (by kernel_rfl) (by kernel_rfl) (fun _ _ _ h => h) (Or.inl ⟨by rfl, ?hyc40⟩) ?_
        case hyc40 => (intro w; go_simp; try with_reducible rfl)
        simp only [Act.put, List.setIfInBounds_toArray, List.set_cons_zero, List.set_cons_succ, List.getElem_toArray, List.getElem_cons_zero, List.getElem_cons_succ]
        refine wpAny_all (rs := [15]) (by kernel_rfl) (by simp) ?_
        intro i hi; obtain rfl : i = 15 := by simpa using hi
        refine wpOp_run rfl (by rfl) ?_
        obtain ⟨auB, kuB, rfl⟩ := sl_len iB
        have cc := (obj_at bT rfl ho).c2
        have ff := block_free bT 2
        have gr := grown_setCell wc B1 2 (.slice auB o.ents.length kuB)
        have bN := block_setCell bT (i := 2) (.slice auB o.ents.length kuB)
        rw [obj_set2 _ _ _ _ o o.ents] at bN
        have iA := IsSl.other iA gr offA
        have iB := IsSl.other iB gr offB
        have iC := IsSl.other iC gr offC
        have X := X.grown gr (fun k hk => by simp at hk; omega)
        have bB := grown_other gr bB (by omega)
        go_simp
        try simp only [Act.put, List.setIfInBounds_toArray, List.set_cons_zero, List.set_cons_succ, List.getElem_toArray, List.getElem_cons_zero, List.getElem_cons_succ]
        generalize wc.setCell ⟨B1, 2, none⟩ (.slice auB o.ents.length kuB) = wn at *
        clear cc ff gr bT
        have bT : wn.heap[B1]? = some (.cells (objC (.slice auA o.bytes.length kuA) (.slice auB o.ents.length kuB) vp o).toArray 29 (0, 0)) := bN
        clear bN
        obtain ⟨wc, rfl⟩ : ∃ x, x = wn := ⟨_, rfl⟩
        refine wpAny_take (i := 16) (v := ?vc41) rfl (by kernel_rfl) (by kernel_rfl) (by kernel_rfl) (fun _ _ _ h => h) (Or.inl ⟨by rfl, ?hyc41⟩) ?_
        case hyc41 => (intro w; go_simp; try with_reducible rfl)
        simp only [Act.put, List.setIfInBounds_toArray, List.set_cons_zero, List.set_cons_succ, List.getElem_toArray, List.getElem_cons_zero, List.getElem_cons_succ]
        refine wpAny_all (rs := [17]) (by kernel_rfl) (by simp) ?_
        intro i hi; obtain rfl : i = 17 := by simpa using hi
        refine wpOp_run rfl (by rfl) ?_
        obtain ⟨auC, kuC, rfl⟩ := sl_len iC
        have cc := (obj_at bT rfl ho).c4
        have ff := block_free bT 35
        have gr := grown_setCell wc B1 35 (.slice auC o.pars.length kuC)
        have bN := block_setCell bT (i := 35) (.slice auC o.pars.length kuC)
        rw [obj_set35 _ _ _ _ o o.pars ho.tree] at bN
        have iA := IsSl.other iA gr offA
        have iB := IsSl.other iB gr offB
        have iC := IsSl.other iC gr offC
        have X := X.grown gr (fun k hk => by simp at hk; omega)
        have bB := grown_other gr bB (by omega)
        go_simp
        try simp only [Act.put, List.setIfInBounds_toArray, List.set_cons_zero, List.set_cons_succ, List.getElem_toArray, List.getElem_cons_zero, List.getElem_cons_succ]
        generalize wc.setCell ⟨B1, 35, none⟩ (.slice auC o.pars.length kuC) = wn at *
        clear cc ff gr bT
        have bT : wn.heap[B1]? = some (.cells (objC (.slice auA o.bytes.length kuA) (.slice auB o.ents.length kuB) (.slice auC o.pars.length kuC) o).toArray 29 (0, 0)) := bN
        clear bN
        obtain ⟨wc, rfl⟩ : ∃ x, x = wn := ⟨_, rfl⟩
        refine wpAny_done (by kernel_rfl) ?_ _
        refine NoPanic.normal ?_
        have hO : IsObj wc (objC (.slice auA o.bytes.length kuA) (.slice auB o.ents.length kuB) (.slice auC o.pars.length kuC) o).toArray (.slice auA o.bytes.length kuA) (.slice auB o.ents.length kuB) (.slice auC o.pars.length kuC) o := ⟨rfl, ho, iA, iB, iC⟩
        have hfitO := hO.info
        have honeO := hO.one
        have hszO := hO.size
        have offA2 := offA2
        have hlast := hO
        clear hO iA iB iC
        generalize hQB : (objC (.slice auA o.bytes.length kuA) (.slice auB o.ents.length kuB) (.slice auC o.pars.length kuC) o).toArray = QB at *
        go_wp2_with (first
          | ((with_reducible refine at_load 29 (.tmp 1) ?_); refine wpl_load (by rfl) 29 (.tmp 1) rfl B1 (by rfl) 29 QB (0, 0) _ bT Tryd.underlying29 rfl hfitO ?_)
          | ((with_reducible refine at_store 29 (.tmp 2) (.tmp 18) ?_); refine wpl_store (by rfl) 29 (.tmp 2) (.tmp 18) rfl (B1 + 1) QB (by rfl) (by rfl) 29 _ bB hfitO (by rw [hszO]; rfl) honeO ?_))
        have hfin : (wc.setRow (B1 + 1) QB).heap[B1 + 1]? = some (.cells QB 29 (0, 0)) := setRow_heap _ _ _ _ _ _ bB
        refine bodyPost_ret (results_cell_row rfl _ _ (B1 + 1) _ _ _ _ (by rfl) hfin Tryd.underlying29 rfl hfitO) rfl ⟨QB, (.slice auA o.bytes.length kuA), (.slice auB o.ents.length kuB), (.slice auC o.pars.length kuC), rfl, ?_, X.grown grown_setRow' (fun k hk => by simp at hk; omega)⟩
        exact ⟨hlast.eq, hlast.ok, IsSl.other hlast.vb grown_setRow' offA2, IsSl.other hlast.ve grown_setRow' offB2, IsSl.other hlast.vp grown_setRow' offC2⟩
      · refine wpOp_run rfl (by rfl) ?_
        go_simp
        have bB := heap_alloc_new wc (.cells #[] 49)
        have neB : B1 + 1 < wc.heap.size := by have := hHeld.size; omega
        have xn : Ext wc (wc.alloc (.cells #[] 49)) := (Ext.refl wc).alloc _
        have hHeld := hHeld.trans xn
        first | refine ⟨hHeld, ?_⟩ | refine ⟨fun _ => hHeld, ?_⟩
        try simp only [Act.put, List.setIfInBounds_toArray, List.set_cons_zero, List.set_cons_succ, List.getElem_toArray, List.getElem_cons_zero, List.getElem_cons_succ]
        generalize hgB : wc.heap.size = gB at *
        have bC := xn.keeps bC
        have bA := xn.keeps bA
        generalize wc.alloc (.cells #[] 49) = wn at *
        clear xn
        obtain ⟨wc, rfl⟩ : ∃ x, x = wn := ⟨_, rfl⟩
        refine G_all (rs := [3]) (by kernel_rfl) (by simp) ?_
        intro i hi; obtain rfl : i = 3 := by simpa using hi
        refine wpOp_run rfl (by rfl) ?_
        refine wp_app0O tyB (.tmp 3) (.tmp 5) rfl gA bA (by rfl) vb o.bytes.length (o.bytes.map bc) ((HA.out.ext hHeld).vb) (by rfl) (bc_one _) (by omega) (by omega) ?_
        intro uA wn iA xn offA
        have offA2 := offA (B1 + 1) (by omega) (by have := hHeld.size; omega)
        have offA := offA B1 (by omega) (by have := hHeld.size; omega)
        have hHeld := hHeld.trans xn
        first | refine ⟨hHeld, ?_⟩ | refine ⟨fun _ => hHeld, ?_⟩
        try simp only [Act.put, List.setIfInBounds_toArray, List.set_cons_zero, List.set_cons_succ, List.getElem_toArray, List.getElem_cons_zero, List.getElem_cons_succ]
        have bC := xn.keeps bC
        have bA := xn.keeps bA
        have bB := xn.keeps bB
        clear xn
        obtain ⟨wc, rfl⟩ : ∃ x, x = wn := ⟨_, rfl⟩
        refine G_take (i := 12) (u := ?vc42) rfl (by kernel_rfl) (by kernel_rfl) (by kernel_rfl) (fun _ _ _ h => h) rfl (by kernel_rfl) (by decide) (by rfl) (Or.inl ⟨by rfl, ?hyc42⟩) hHeld ?_
        case hyc42 => (intro w hSw; go_simp; try with_reducible rfl)
        simp only [Act.put, List.setIfInBounds_toArray, List.set_cons_zero, List.set_cons_succ, List.getElem_toArray, List.getElem_cons_zero, List.getElem_cons_succ]
        refine G_all (rs := [7]) (by kernel_rfl) (by simp) ?_
        intro i hi; obtain rfl : i = 7 := by simpa using hi
        refine wpOp_run rfl (by rfl) ?_
        refine wp_app0O tyE (.tmp 7) (.tmp 9) rfl gB bB (by rfl) ve o.ents.length (o.ents.flatMap entC) ((HA.out.ext hHeld).ve) (by rfl) (ents_one _) (by omega) (by omega) ?_
        intro uB wn iB xn offB
        have offB2 := offB (B1 + 1) (by omega) (by have := hHeld.size; omega)
        have offB := offB B1 (by omega) (by have := hHeld.size; omega)
        have hHeld := hHeld.trans xn
        first | refine ⟨hHeld, ?_⟩ | refine ⟨fun _ => hHeld, ?_⟩
        try simp only [Act.put, List.setIfInBounds_toArray, List.set_cons_zero, List.set_cons_succ, List.getElem_toArray, List.getElem_cons_zero, List.getElem_cons_succ]
        have bC := xn.keeps bC
        have bB := xn.keeps bB
        have iA := iA.ext xn
        clear xn
        obtain ⟨wc, rfl⟩ : ∃ x, x = wn := ⟨_, rfl⟩
        refine G_all (rs := [11]) (by kernel_rfl) (by simp) ?_
        intro i hi; obtain rfl : i = 11 := by simpa using hi
        refine wpOp_run rfl (by rfl) ?_
        refine wp_app0O tyI (.tmp 11) (.tmp 13) rfl gC bC (by rfl) vp o.pars.length (o.pars.flatMap idC) ((HA.out.ext hHeld).vp) (by rfl) (ids_one _) (by omega) (by omega) ?_
        intro uC wn iC xn offC
        have offC2 := offC (B1 + 1) (by omega) (by have := hHeld.size; omega)
        have offC := offC B1 (by omega) (by have := hHeld.size; omega)
        have hHeld := hHeld.trans xn
        first | refine ⟨hHeld, ?_⟩ | refine ⟨fun _ => hHeld, ?_⟩
        try simp only [Act.put, List.setIfInBounds_toArray, List.set_cons_zero, List.set_cons_succ, List.getElem_toArray, List.getElem_cons_zero, List.getElem_cons_succ]
        have bC := xn.keeps bC
        have iA := iA.ext xn
        have iB := iB.ext xn
        clear xn
        obtain ⟨wc, rfl⟩ : ∃ x, x = wn := ⟨_, rfl⟩
        have bT := hHeld.keeps b1
        have bB := hHeld.keeps b2
        have X := X1.trans hHeld
        refine G_all (rs := [13]) (by kernel_rfl) (by simp) ?_
        intro i hi; obtain rfl : i = 13 := by simpa using hi
        refine wpOp_run rfl (by rfl) ?_
        obtain ⟨auA, kuA, rfl⟩ := sl_len iA
        have cc := (obj_at bT rfl ho).c1
        have ff := block_free bT 1
        have gr := grown_setCell wc B1 1 (.slice auA o.bytes.length kuA)
        have bN := block_setCell bT (i := 1) (.slice auA o.bytes.length kuA)
        rw [obj_set1 _ _ _ _ o o.bytes] at bN
        have iA := IsSl.other iA gr offA
        have iB := IsSl.other iB gr offB
        have iC := IsSl.other iC gr offC
        have X := X.grown gr (fun k hk => by simp at hk; omega)
        have bB := grown_other gr bB (by omega)
        go_simp
        try refine ⟨fun e => absurd e (by decide), ?_⟩
        refine G_free _ _ _ _ (by rfl) ?_
        try simp only [Act.put, List.setIfInBounds_toArray, List.set_cons_zero, List.set_cons_succ, List.getElem_toArray, List.getElem_cons_zero, List.getElem_cons_succ]
        generalize wc.setCell ⟨B1, 1, none⟩ (.slice auA o.bytes.length kuA) = wn at *
        clear cc ff gr bT
        have bT : wn.heap[B1]? = some (.cells (objC (.slice auA o.bytes.length kuA) ve vp o).toArray 29 (0, 0)) := bN
        clear bN
        obtain ⟨wc, rfl⟩ : ∃ x, x = wn := ⟨_, rfl⟩
        refine wpAny_take (i := 14) (v := ?vc43) rfl (by kernel_rfl) (by kernel_rfl) (by kernel_rfl) (fun _ _ _ h => h) (Or.inl ⟨by rfl, ?hyc43⟩) ?_
        case hyc43 => (intro w; go_simp; try with_reducible rfl)
        simp only [Act.put, List.setIfInBounds_toArray, List.set_cons_zero, List.set_cons_succ, List.getElem_toArray, List.getElem_cons_zero, List.getElem_cons_succ]
        refine wpAny_all (rs := [15]) (by kernel_rfl) (by simp) ?_
        intro i hi; obtain rfl : i = 15 := by simpa using hi
        refine wpOp_run rfl (by rfl) ?_
        obtain ⟨auB, kuB, rfl⟩ := sl_len iB
        have cc := (obj_at bT rfl ho).c2
        have ff := block_free bT 2
        have gr := grown_setCell wc B1 2 (.slice auB o.ents.length kuB)
        have bN := block_setCell bT (i := 2) (.slice auB o.ents.length kuB)
        rw [obj_set2 _ _ _ _ o o.ents] at bN
        have iA := IsSl.other iA gr offA
        have iB := IsSl.other iB gr offB
        have iC := IsSl.other iC gr offC
        have X := X.grown gr (fun k hk => by simp at hk; omega)
        have bB := grown_other gr bB (by omega)
        go_simp
        try simp only [Act.put, List.setIfInBounds_toArray, List.set_cons_zero, List.set_cons_succ, List.getElem_toArray, List.getElem_cons_zero, List.getElem_cons_succ]
        generalize wc.setCell ⟨B1, 2, none⟩ (.slice auB o.ents.length kuB) = wn at *
        clear cc ff gr bT
        have bT : wn.heap[B1]? = some (.cells (objC (.slice auA o.bytes.length kuA) (.slice auB o.ents.length kuB) vp o).toArray 29 (0, 0)) := bN
        clear bN
        obtain ⟨wc, rfl⟩ : ∃ x, x = wn := ⟨_, rfl⟩
        refine wpAny_take (i := 16) (v := ?vc44) rfl (by kernel_rfl) (by kernel_rfl) (by kernel_rfl) (fun _ _ _ h => h) (Or.inl ⟨by rfl, ?hyc44⟩) ?_
        case hyc44 => (intro w; go_simp; try with_reducible rfl)
        simp only [Act.put, List.setIfInBounds_toArray, List.set_cons_zero, List.set_cons_succ, List.getElem_toArray, List.getElem_cons_zero, List.getElem_cons_succ]
        refine wpAny_all (rs := [17]) (by kernel_rfl) (by simp) ?_
        intro i hi; obtain rfl : i = 17 := by simpa using hi
        refine wpOp_run rfl (by rfl) ?_
        obtain ⟨auC, kuC, rfl⟩ := sl_len iC
        have cc := (obj_at bT rfl ho).c4
        have ff := block_free bT 35
        have gr := grown_setCell wc B1 35 (.slice auC o.pars.length kuC)
        have bN := block_setCell bT (i := 35) (.slice auC o.pars.length kuC)
        rw [obj_set35 _ _ _ _ o o.pars ho.tree] at bN
        have iA := IsSl.other iA gr offA
        have iB := IsSl.other iB gr offB
        have iC := IsSl.other iC gr offC
        have X := X.grown gr (fun k hk => by simp at hk; omega)
        have bB := grown_other gr bB (by omega)
        go_simp
        try simp only [Act.put, List.setIfInBounds_toArray, List.set_cons_zero, List.set_cons_succ, List.getElem_toArray, List.getElem_cons_zero, List.getElem_cons_succ]
        generalize wc.setCell ⟨B1, 35, none⟩ (.slice auC o.pars.length kuC) = wn at *
        clear cc ff gr bT
        have bT : wn.heap[B1]? = some (.cells (objC (.slice auA o.bytes.length kuA) (.slice auB o.ents.length kuB) (.slice auC o.pars.length kuC) o).toArray 29 (0, 0)) := bN
        clear bN
        obtain ⟨wc, rfl⟩ : ∃ x, x = wn := ⟨_, rfl⟩
        refine wpAny_done (by kernel_rfl) ?_ _
        refine NoPanic.normal ?_
        have hO : IsObj wc (objC (.slice auA o.bytes.length kuA) (.slice auB o.ents.length kuB) (.slice auC o.pars.length kuC) o).toArray (.slice auA o.bytes.length kuA) (.slice auB o.ents.length kuB) (.slice auC o.pars.length kuC) o := ⟨rfl, ho, iA, iB, iC⟩
        have hfitO := hO.info
        have honeO := hO.one
        have hszO := hO.size
        have offA2 := offA2
        have hlast := hO
        clear hO iA iB iC
        generalize hQB : (objC (.slice auA o.bytes.length kuA) (.slice auB o.ents.length kuB) (.slice auC o.pars.length kuC) o).toArray = QB at *
        go_wp2_with (first
          | ((with_reducible refine at_load 29 (.tmp 1) ?_); refine wpl_load (by rfl) 29 (.tmp 1) rfl B1 (by rfl) 29 QB (0, 0) _ bT Tryd.underlying29 rfl hfitO ?_)
          | ((with_reducible refine at_store 29 (.tmp 2) (.tmp 18) ?_); refine wpl_store (by rfl) 29 (.tmp 2) (.tmp 18) rfl (B1 + 1) QB (by rfl) (by rfl) 29 _ bB hfitO (by rw [hszO]; rfl) honeO ?_))
        have hfin : (wc.setRow (B1 + 1) QB).heap[B1 + 1]? = some (.cells QB 29 (0, 0)) := setRow_heap _ _ _ _ _ _ bB
        refine bodyPost_ret (results_cell_row rfl _ _ (B1 + 1) _ _ _ _ (by rfl) hfin Tryd.underlying29 rfl hfitO) rfl ⟨QB, (.slice auA o.bytes.length kuA), (.slice auB o.ents.length kuB), (.slice auC o.pars.length kuC), rfl, ?_, X.grown grown_setRow' (fun k hk => by simp at hk; omega)⟩
        exact ⟨hlast.eq, hlast.ok, IsSl.other hlast.vb grown_setRow' offA2, IsSl.other hlast.ve grown_setRow' offB2, IsSl.other hlast.vp grown_setRow' offC2⟩
    · refine wpOp_run rfl (by rfl) ?_
      go_simp
      have bB := heap_alloc_new wc (.cells #[] 49)
      have neB : B1 + 1 < wc.heap.size := by have := hHeld.size; omega
      have xn : Ext wc (wc.alloc (.cells #[] 49)) := (Ext.refl wc).alloc _
      have hHeld := hHeld.trans xn
      first | refine ⟨hHeld, ?_⟩ | refine ⟨fun _ => hHeld, ?_⟩
      try simp only [Act.put, List.setIfInBounds_toArray, List.set_cons_zero, List.set_cons_succ, List.getElem_toArray, List.getElem_cons_zero, List.getElem_cons_succ]
      generalize hgB : wc.heap.size = gB at *
      have bC := xn.keeps bC
      generalize wc.alloc (.cells #[] 49) = wn at *
      clear xn
      obtain ⟨wc, rfl⟩ : ∃ x, x = wn := ⟨_, rfl⟩
      refine G_all (rs := [0]) (by kernel_rfl) (by simp) ?_
      intro i hi; obtain rfl : i = 0 := by simpa using hi
      refine wpOp_run rfl (by rfl) ?_
      go_simp
      have bA := heap_alloc_new wc (.cells #[] 5)
      have neA : B1 + 1 < wc.heap.size := by have := hHeld.size; omega
      have xn : Ext wc (wc.alloc (.cells #[] 5)) := (Ext.refl wc).alloc _
      have hHeld := hHeld.trans xn
      first | refine ⟨hHeld, ?_⟩ | refine ⟨fun _ => hHeld, ?_⟩
      try simp only [Act.put, List.setIfInBounds_toArray, List.set_cons_zero, List.set_cons_succ, List.getElem_toArray, List.getElem_cons_zero, List.getElem_cons_succ]
      generalize hgA : wc.heap.size = gA at *
      have bC := xn.keeps bC
      have bB := xn.keeps bB
      generalize wc.alloc (.cells #[] 5) = wn at *
      clear xn
      obtain ⟨wc, rfl⟩ : ∃ x, x = wn := ⟨_, rfl⟩
      refine G_all (rs := [3]) (by kernel_rfl) (by simp) ?_
      intro i hi; obtain rfl : i = 3 := by simpa using hi
      refine wpOp_run rfl (by rfl) ?_
      refine wp_app0O tyB (.tmp 3) (.tmp 5) rfl gA bA (by rfl) vb o.bytes.length (o.bytes.map bc) ((HA.out.ext hHeld).vb) (by rfl) (bc_one _) (by omega) (by omega) ?_
      intro uA wn iA xn offA
      have offA2 := offA (B1 + 1) (by omega) (by have := hHeld.size; omega)
      have offA := offA B1 (by omega) (by have := hHeld.size; omega)
      have hHeld := hHeld.trans xn
      first | refine ⟨hHeld, ?_⟩ | refine ⟨fun _ => hHeld, ?_⟩
      try simp only [Act.put, List.setIfInBounds_toArray, List.set_cons_zero, List.set_cons_succ, List.getElem_toArray, List.getElem_cons_zero, List.getElem_cons_succ]
      have bC := xn.keeps bC
      have bB := xn.keeps bB
      have bA := xn.keeps bA
      clear xn
      obtain ⟨wc, rfl⟩ : ∃ x, x = wn := ⟨_, rfl⟩
      refine G_take (i := 12) (u := ?vc45) rfl (by kernel_rfl) (by kernel_rfl) (by kernel_rfl) (fun _ _ _ h => h) rfl (by kernel_rfl) (by decide) (by rfl) (Or.inl ⟨by rfl, ?hyc45⟩) hHeld ?_
      case hyc45 => (intro w hSw; go_simp; try with_reducible rfl)
      simp only [Act.put, List.setIfInBounds_toArray, List.set_cons_zero, List.set_cons_succ, List.getElem_toArray, List.getElem_cons_zero, List.getElem_cons_succ]
      refine G_all (rs := [7]) (by kernel_rfl) (by simp) ?_
      intro i hi; obtain rfl : i = 7 := by simpa using hi
      refine wpOp_run rfl (by rfl) ?_
      refine wp_app0O tyE (.tmp 7) (.tmp 9) rfl gB bB (by rfl) ve o.ents.length (o.ents.flatMap entC) ((HA.out.ext hHeld).ve) (by rfl) (ents_one _) (by omega) (by omega) ?_
      intro uB wn iB xn offB
      have offB2 := offB (B1 + 1) (by omega) (by have := hHeld.size; omega)
      have offB := offB B1 (by omega) (by have := hHeld.size; omega)
      have hHeld := hHeld.trans xn
      first | refine ⟨hHeld, ?_⟩ | refine ⟨fun _ => hHeld, ?_⟩
      try simp only [Act.put, List.setIfInBounds_toArray, List.set_cons_zero, List.set_cons_succ, List.getElem_toArray, List.getElem_cons_zero, List.getElem_cons_succ]
      have bC := xn.keeps bC
      have bB := xn.keeps bB
      have iA := iA.ext xn
      clear xn
      obtain ⟨wc, rfl⟩ : ∃ x, x = wn := ⟨_, rfl⟩
      refine G_all (rs := [11]) (by kernel_rfl) (by simp) ?_
      intro i hi; obtain rfl : i = 11 := by simpa using hi
      refine wpOp_run rfl (by rfl) ?_
      refine wp_app0O tyI (.tmp 11) (.tmp 13) rfl gC bC (by rfl) vp o.pars.length (o.pars.flatMap idC) ((HA.out.ext hHeld).vp) (by rfl) (ids_one _) (by omega) (by omega) ?_
      intro uC wn iC xn offC
      have offC2 := offC (B1 + 1) (by omega) (by have := hHeld.size; omega)
      have offC := offC B1 (by omega) (by have := hHeld.size; omega)
      have hHeld := hHeld.trans xn
      first | refine ⟨hHeld, ?_⟩ | refine ⟨fun _ => hHeld, ?_⟩
      try simp only [Act.put, List.setIfInBounds_toArray, List.set_cons_zero, List.set_cons_succ, List.getElem_toArray, List.getElem_cons_zero, List.getElem_cons_succ]
      have bC := xn.keeps bC
      have iA := iA.ext xn
      have iB := iB.ext xn
      clear xn
      obtain ⟨wc, rfl⟩ : ∃ x, x = wn := ⟨_, rfl⟩
      have bT := hHeld.keeps b1
      have bB := hHeld.keeps b2
      have X := X1.trans hHeld
      refine G_all (rs := [13]) (by kernel_rfl) (by simp) ?_
      intro i hi; obtain rfl : i = 13 := by simpa using hi
      refine wpOp_run rfl (by rfl) ?_
      obtain ⟨auA, kuA, rfl⟩ := sl_len iA
      have cc := (obj_at bT rfl ho).c1
      have ff := block_free bT 1
      have gr := grown_setCell wc B1 1 (.slice auA o.bytes.length kuA)
      have bN := block_setCell bT (i := 1) (.slice auA o.bytes.length kuA)
      rw [obj_set1 _ _ _ _ o o.bytes] at bN
      have iA := IsSl.other iA gr offA
      have iB := IsSl.other iB gr offB
      have iC := IsSl.other iC gr offC
      have X := X.grown gr (fun k hk => by simp at hk; omega)
      have bB := grown_other gr bB (by omega)
      go_simp
      try refine ⟨fun e => absurd e (by decide), ?_⟩
      refine G_free _ _ _ _ (by rfl) ?_
      try simp only [Act.put, List.setIfInBounds_toArray, List.set_cons_zero, List.set_cons_succ, List.getElem_toArray, List.getElem_cons_zero, List.getElem_cons_succ]
      generalize wc.setCell ⟨B1, 1, none⟩ (.slice auA o.bytes.length kuA) = wn at *
      clear cc ff gr bT
      have bT : wn.heap[B1]? = some (.cells (objC (.slice auA o.bytes.length kuA) ve vp o).toArray 29 (0, 0)) := bN
      clear bN
      obtain ⟨wc, rfl⟩ : ∃ x, x = wn := ⟨_, rfl⟩
      refine wpAny_take (i := 14) (v := ?vc46) rfl (by kernel_rfl) (by kernel_rfl) (by kernel_rfl) (fun _ _ _ h => h) (Or.inl ⟨by rfl, ?hyc46⟩) ?_
      case hyc46 => (intro w; go_simp; try with_reducible rfl)
      simp only [Act.put, List.setIfInBounds_toArray, List.set_cons_zero, List.set_cons_succ, List.getElem_toArray, List.getElem_cons_zero, List.getElem_cons_succ]
      refine wpAny_all (rs := [15]) (by kernel_rfl) (by simp) ?_
      intro i hi; obtain rfl : i = 15 := by simpa using hi
      refine wpOp_run rfl (by rfl) ?_
      obtain ⟨auB, kuB, rfl⟩ := sl_len iB
      have cc := (obj_at bT rfl ho).c2
      have ff := block_free bT 2
      have gr := grown_setCell wc B1 2 (.slice auB o.ents.length kuB)
      have bN := block_setCell bT (i := 2) (.slice auB o.ents.length kuB)
      rw [obj_set2 _ _ _ _ o o.ents] at bN
      have iA := IsSl.other iA gr offA
      have iB := IsSl.other iB gr offB
      have iC := IsSl.other iC gr offC
      have X := X.grown gr (fun k hk => by simp at hk; omega)
      have bB := grown_other gr bB (by omega)
      go_simp
      try simp only [Act.put, List.setIfInBounds_toArray, List.set_cons_zero, List.set_cons_succ, List.getElem_toArray, List.getElem_cons_zero, List.getElem_cons_succ]
      generalize wc.setCell ⟨B1, 2, none⟩ (.slice auB o.ents.length kuB) = wn at *
      clear cc ff gr bT
      have bT : wn.heap[B1]? = some (.cells (objC (.slice auA o.bytes.length kuA) (.slice auB o.ents.length kuB) vp o).toArray 29 (0, 0)) := bN
      clear bN
      obtain ⟨wc, rfl⟩ : ∃ x, x = wn := ⟨_, rfl⟩
      refine wpAny_take (i := 16) (v := ?vc47) rfl (by kernel_rfl) (by kernel_rfl) (by kernel_rfl) (fun _ _ _ h => h) (Or.inl ⟨by rfl, ?hyc47⟩) ?_
      case hyc47 => (intro w; go_simp; try with_reducible rfl)
      simp only [Act.put, List.setIfInBounds_toArray, List.set_cons_zero, List.set_cons_succ, List.getElem_toArray, List.getElem_cons_zero, List.getElem_cons_succ]
      refine wpAny_all (rs := [17]) (by kernel_rfl) (by simp) ?_
      intro i hi; obtain rfl : i = 17 := by simpa using hi
      refine wpOp_run rfl (by rfl) ?_
      obtain ⟨auC, kuC, rfl⟩ := sl_len iC
      have cc := (obj_at bT rfl ho).c4
      have ff := block_free bT 35
      have gr := grown_setCell wc B1 35 (.slice auC o.pars.length kuC)
      have bN := block_setCell bT (i := 35) (.slice auC o.pars.length kuC)
      rw [obj_set35 _ _ _ _ o o.pars ho.tree] at bN
      have iA := IsSl.other iA gr offA
      have iB := IsSl.other iB gr offB
      have iC := IsSl.other iC gr offC
      have X := X.grown gr (fun k hk => by simp at hk; omega)
      have bB := grown_other gr bB (by omega)
      go_simp
      try simp only [Act.put, List.setIfInBounds_toArray, List.set_cons_zero, List.set_cons_succ, List.getElem_toArray, List.getElem_cons_zero, List.getElem_cons_succ]
      generalize wc.setCell ⟨B1, 35, none⟩ (.slice auC o.pars.length kuC) = wn at *
      clear cc ff gr bT
      have bT : wn.heap[B1]? = some (.cells (objC (.slice auA o.bytes.length kuA) (.slice auB o.ents.length kuB) (.slice auC o.pars.length kuC) o).toArray 29 (0, 0)) := bN
      clear bN
      obtain ⟨wc, rfl⟩ : ∃ x, x = wn := ⟨_, rfl⟩
      refine wpAny_done (by kernel_rfl) ?_ _
      refine NoPanic.normal ?_
      have hO : IsObj wc (objC (.slice auA o.bytes.length kuA) (.slice auB o.ents.length kuB) (.slice auC o.pars.length kuC) o).toArray (.slice auA o.bytes.length kuA) (.slice auB o.ents.length kuB) (.slice auC o.pars.length kuC) o := ⟨rfl, ho, iA, iB, iC⟩
      have hfitO := hO.info
      have honeO := hO.one
      have hszO := hO.size
      have offA2 := offA2
      have hlast := hO
      clear hO iA iB iC
      generalize hQB : (objC (.slice auA o.bytes.length kuA) (.slice auB o.ents.length kuB) (.slice auC o.pars.length kuC) o).toArray = QB at *
      go_wp2_with (first
        | ((with_reducible refine at_load 29 (.tmp 1) ?_); refine wpl_load (by rfl) 29 (.tmp 1) rfl B1 (by rfl) 29 QB (0, 0) _ bT Tryd.underlying29 rfl hfitO ?_)
        | ((with_reducible refine at_store 29 (.tmp 2) (.tmp 18) ?_); refine wpl_store (by rfl) 29 (.tmp 2) (.tmp 18) rfl (B1 + 1) QB (by rfl) (by rfl) 29 _ bB hfitO (by rw [hszO]; rfl) honeO ?_))
      have hfin : (wc.setRow (B1 + 1) QB).heap[B1 + 1]? = some (.cells QB 29 (0, 0)) := setRow_heap _ _ _ _ _ _ bB
      refine bodyPost_ret (results_cell_row rfl _ _ (B1 + 1) _ _ _ _ (by rfl) hfin Tryd.underlying29 rfl hfitO) rfl ⟨QB, (.slice auA o.bytes.length kuA), (.slice auB o.ents.length kuB), (.slice auC o.pars.length kuC), rfl, ?_, X.grown grown_setRow' (fun k hk => by simp at hk; omega)⟩
      exact ⟨hlast.eq, hlast.ok, IsSl.other hlast.vb grown_setRow' offA2, IsSl.other hlast.ve grown_setRow' offB2, IsSl.other hlast.vp grown_setRow' offC2⟩
end Go.Proofs.YtcdlmappcbbacaaDoor
