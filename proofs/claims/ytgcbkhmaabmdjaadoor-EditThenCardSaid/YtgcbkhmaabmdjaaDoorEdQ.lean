/- The walk of the reference's Do: bytes behind edits that fit. -/
import Derived.Test.YtgcbkhmaabmdjaaDoorEdP
namespace Go.Proofs.YtgcbkhmaabmdjaaDoor
open Go.RowKit
set_option linter.unusedVariables false

theorem flatm_drop {α : Type} (c : α → List Value) (k : Nat) : ∀ (a : Nat) (xs : List α), (∀ x ∈ xs, (c x).length = k) → (xs.flatMap c).drop (a * k) = (xs.drop a).flatMap c
  | 0, xs, _ => by simp
  | a + 1, [], _ => by simp
  | a + 1, x :: xs, h => by
    rw [List.flatMap_cons, List.drop_succ_cons, List.drop_append, h x (List.mem_cons_self ..), List.drop_eq_nil_of_le (by rw [h x (List.mem_cons_self ..), Nat.succ_mul]; omega), List.nil_append, Nat.succ_mul, Nat.add_sub_cancel]
    exact flatm_drop c k a xs (fun y hy => h y (List.mem_cons_of_mem _ hy))
theorem flatm_take {α : Type} (c : α → List Value) (k : Nat) : ∀ (a : Nat) (xs : List α), (∀ x ∈ xs, (c x).length = k) → (xs.flatMap c).take (a * k) = (xs.take a).flatMap c
  | 0, xs, _ => by simp
  | a + 1, [], _ => by simp
  | a + 1, x :: xs, h => by
    rw [List.flatMap_cons, List.take_succ_cons, List.flatMap_cons, List.take_append, h x (List.mem_cons_self ..), List.take_of_length_le (by rw [h x (List.mem_cons_self ..), Nat.succ_mul]; omega), Nat.succ_mul, Nat.add_sub_cancel]
    rw [flatm_take c k a xs (fun y hy => h y (List.mem_cons_of_mem _ hy))]
/-- A block of another type is not the row's own. -/
theorem own_neQ {w : World} {base : Nat} {e t : TypeId} {size : Nat} {v : Value} {n : Nat} {xs : List Value} {g : Nat} {c : Array Value} {f : Nat × Nat} (h : w.ownsRow base e size v n xs) (hg : w.heap[g]? = some (.cells c t f)) (hne : t ≠ e) : v.ownBlock ≠ some g := by
  rcases h.2 with ⟨rfl, rfl⟩ | ⟨g', cap, cur, rfl, _, hh, _⟩
  · simp [Value.ownBlock]
  · intro hx
    simp [Value.ownBlock] at hx
    subst hx
    rw [hg] at hh
    simp only [Option.some.injEq, Obj.cells.injEq] at hh
    exact hne hh.2.1
theorem grown_keeps {w w' : World} {base : Nat} {e t : TypeId} {size : Nat} {v : Value} {n : Nat} {xs : List Value} {g : Nat} {c : Array Value} {f : Nat × Nat} (h : w.ownsRow base e size v n xs) (hg : w.heap[g]? = some (.cells c t f)) (hne : t ≠ e) (k : w.grownBy w' v.ownBlock) : w'.heap[g]? = some (.cells c t f) := by
  rw [k.block g (block_lt hg) (own_neQ h hg hne).symm]
  exact hg
theorem IsY.cut {w : World} {ao : Option Addr} {n cap : Nat} {l : List (UInt8 × Int)} (h : IsY w (.slice ao n cap) l) (a b : Nat) (hab : a ≤ b) (hb : b ≤ n) :
    IsSl w (.slice (if cap = a then ao else ao.map (·.add (a * 2))) (b - a) (cap - a)) 2 (b - a) (((l.drop a).take (b - a)).flatMap byC) := by
  have hn : n = l.length := by obtain ⟨_, ao', cap', e, _⟩ := h; simp only [Value.slice.injEq] at e; exact e.2.1
  subst hn
  have := IsSl.cut h a b hab hb
  rw [flatm_drop byC 2 a l (fun _ _ => rfl), flatm_take byC 2 (b - a) _ (fun _ _ => rfl)] at this
  exact this

/-- The bytes behind edits, from place a on. -/
def doB (b : List (UInt8 × Int)) : Nat → List Ed → List (UInt8 × Int)
  | a, [] => b.drop a
  | a, e :: r => (b.drop a).take (e.at_.toNat - a) ++ e.text.data.toList.map (fun c => (c, -1)) ++ doB b (e.at_ + e.n).toNat r
theorem doB_fst (b : List (UInt8 × Int)) : ∀ (a : Nat) (l : List Ed), (doB b a l).map Prod.fst = doneFrom (b.map Prod.fst) a l
  | a, [] => by simp [doB, doneFrom]
  | a, e :: r => by simp [doB, doneFrom, doB_fst b _ r, List.map_append, List.map_map, Function.comp_def]

set_option maxHeartbeats 4000000 in
set_option maxRecDepth 100000 in
theorem refDo (w : World) (v : Value) (l : List Ed) (u : Value) (b : List (UInt8 × Int)) (h : IsE w v l) (hb : IsY w u b) (hok : okFrom b.length 0 l) (hl : l.length ≤ 1000000) (hs : b.length ≤ 1099511627776) :
    Calls Tryd.prog 43 #[u, v] w fun e w' => ∃ v' n, e = .returned v' ∧ w'.ownsRow w.heap.size 95 2 v' n ((doB b 0 l).flatMap byC) ∧ n = (doB b 0 l).length ∧ n ≤ b.length + 4096 * l.length ∧ Ext w w' := by
  obtain ⟨ao, cap, rfl, b1, m1, z1, g1⟩ := h.opened
  have hbx := hb
  obtain ⟨aob, capb, rfl, bb1, bm1, _, _⟩ := hb.opened
  have G1 := Lib.hid g1
  have HO := Lib.hid h.ok
  clear g1 z1 h hb
  go_enter Tryd.func43, Tryd.ntmps43
  go_wp2_with fail
  go_loopg [5, 6, 12] l.length (fun g s5 s6 s12 wr => ∃ (k a : Nat) (out : List (UInt8 × Int)), k ≤ l.length ∧ l.length - k ≤ g ∧ s12 = .int .i64 k ∧ s6 = .int .i64 (a : Int) ∧ out ++ doB b a (l.drop k) = doB b 0 l ∧ okFrom b.length a (l.drop k) ∧ out.length ≤ a + 4096 * k ∧ wr.ownsRow w.heap.size 95 2 s5 out.length (out.flatMap byC) ∧ Ext w wr)
  case atStart =>
    exact ⟨0, 0, [], Nat.zero_le _, by omega, rfl, rfl, by simp, by simpa using hok, by simp, World.ownsRow_nil _ _ _ _, Ext.refl _⟩
  case round =>
    obtain ⟨k, a, out, hk, hg, rfl, rfl, heq, hokk, hout, hown, xr⟩ := hrel
    have HEQ := Lib.hid heq
    have HOKK := Lib.hid hokk
    have ha := okFrom_le _ _ _ hokk
    have hby := hbx.ext xr
    have xs := xr.size
    clear heq hokk
    by_cases hlt : k < l.length
    · obtain ⟨p, o, rfl, e0, e1, e2, e3⟩ := G1.out k hlt
      have e0 := xr.cell e0
      have e1 := xr.cell e1
      have e2 := xr.cell e2
      have e3 := xr.cell e3
      have hd := List.drop_eq_getElem_cons hlt
      have hokk := HOKK.out
      rw [hd] at hokk
      obtain ⟨k1, k2, k3, k4, k5⟩ := hokk
      have heq := HEQ.out
      rw [hd] at heq
      generalize l[k] = x at *
      have HEQ2 := Lib.hid heq
      have HOK5 := Lib.hid k5
      clear heq k5 hd HEQ HOKK
      obtain ⟨c, hc⟩ : ∃ c : Nat, x.at_ = c := ⟨x.at_.toNat, by omega⟩
      obtain ⟨n, hn⟩ : ∃ n : Nat, x.n = n := ⟨x.n.toNat, by omega⟩
      obtain ⟨xp, xa, xn, xt⟩ := x
      simp only at *
      subst hc
      subst hn
      have hcut := IsY.cut (hby.ext ((Ext.refl _).alloc (.cells #[.string xp, .int .i64 (c : Int), .int .i64 (n : Int), .string xt] 40))) a c (by omega) (by omega)
      have hcl : ((b.drop a).take (c - a)).length = c - a := by rw [List.length_take, List.length_drop]; omega
      obtain ⟨q, hq⟩ : ∃ q, (if capb = a then aob else aob.map (·.add (a * 2))) = q := ⟨_, rfl⟩
      rw [hq] at hcut
      all_goals (
        have HCUT := Lib.hid hcut
        clear hcut
        go_wp2_with (at_builtin; go_must (refine wp_app tyY rfl _ _ rfl _ _ _ _ (hown.alloc _) (by rfl) _ (c - a) _ HCUT.out (by rfl) (byC_one _) (by omega) (by omega) (by simp; omega) ?_); intro v4 w4 hown4 hgrow4; have hx4 := grown_keeps (hown.alloc (.cells #[.string xp, .int .i64 (c : Int), .int .i64 (n : Int), .string xt] 40)) (heap_alloc_new wr _) (by decide) hgrow4; have q1 : w4.cell? ⟨wr.heap.size, 1, none⟩ = some (.int .i64 (c : Int)) := (by rw [block_cell hx4]; rfl); have q3 : w4.cell? ⟨wr.heap.size, 3, none⟩ = some (.string xt) := (by rw [block_cell hx4]; rfl))
        have x4 := own_base (hown.alloc _) hgrow4 (xr.alloc _) (Nat.le_refl _)
        rw [← List.flatMap_append] at hown4
        have hOl : (out ++ (b.drop a).take (c - a)).length = out.length + (c - a) := by rw [List.length_append, hcl]
        rw [← hOl] at hown4
        have HE3 := Lib.hid (show (out ++ (b.drop a).take (c - a)) ++ xt.data.toList.map (fun z => (z, (-1 : Int))) ++ doB b (c + n) (l.drop (k + 1)) = doB b 0 l from by
          rw [← HEQ2.out]; simp [doB, show ((c : Int) + (n : Int)).toNat = c + n from by omega])
        generalize out ++ (b.drop a).take (c - a) = O at *
        have HXT : xt.data.toList.length = xt.size := by simp
        clear hown HCUT HEQ2 hcl hgrow4 e0 e1 e2 e3 hby
        generalize wr.heap.size = G at *
        go_loopg [5, 26] xt.size (fun g s5 s26 wr' => ∃ j : Nat, j ≤ xt.size ∧ xt.size - j ≤ g ∧ s26 = .int .i64 j ∧ wr'.ownsRow w.heap.size 95 2 s5 (O.length + j) ((O ++ (xt.data.toList.take j).map (fun z => (z, (-1 : Int)))).flatMap byC) ∧ wr'.heap[G]? = some (.cells #[.string xp, .int .i64 (c : Int), .int .i64 (n : Int), .string xt] 40) ∧ Ext w wr')
        case atStart => exact ⟨0, Nat.zero_le _, by omega, rfl, by simpa using hown4, hx4, x4⟩
        case round =>
          obtain ⟨j, hj, hgj, rfl, hownj, hxj, xrj⟩ := hrel
          have r1 : wr.cell? ⟨G, 1, none⟩ = some (.int .i64 (c : Int)) := by rw [block_cell hxj]; rfl
          have r2 : wr.cell? ⟨G, 2, none⟩ = some (.int .i64 (n : Int)) := by rw [block_cell hxj]; rfl
          have r3 : wr.cell? ⟨G, 3, none⟩ = some (.string xt) := by rw [block_cell hxj]; rfl
          have xsj := xrj.size
          have xsb := block_lt hxj
          by_cases hltj : j < xt.size
          · have hstep : (O ++ (xt.data.toList.take (j + 1)).map (fun z => (z, (-1 : Int)))) = (O ++ (xt.data.toList.take j).map (fun z => (z, (-1 : Int)))) ++ [(xt[j], -1)] := by
              rw [List.take_add_one, List.getElem?_eq_getElem (by omega), List.map_append, List.append_assoc]; rfl
            have HS := Lib.hid hstep
            clear hstep
            go_wp2_with (at_builtin; go_must (refine wp_app tyY rfl _ _ rfl _ _ _ _ (hownj.alloc _) (by rfl) _ 1 (byC (xt[j], (-1 : Int))) (lit_by _ xt[j] (-1) (b := wr.heap.size) rfl) (by rfl) (byC_one1 _) (by omega) (by omega) (by simp; omega) ?_); intro v5 w5 hown5 hgrow5)
            have x5 := own_base (hownj.alloc _) hgrow5 (xrj.alloc _) (Nat.le_refl _)
            have hx5 := grown_keeps (hownj.alloc (.cells #[.int .u8 (xt[j].toNat : Int), .int .i64 (-1)] 95)) ((Below.heap_alloc wr _ _ xsb).trans hxj) (by decide) hgrow5
            go_roundg (xt.size - (j + 1))
            case measure => omega
            case rel => exact ⟨j + 1, by omega, by omega, by go_num, by rw [HS.out, List.flatMap_append]; simpa [Nat.add_assoc] using hown5, hx5, x5⟩
          · have : j = xt.size := by omega
            subst this
            rw [← HXT, List.take_length] at hownj
            go_wp2
            go_roundg (l.length - (k + 1))
            case measure => omega
            case rel =>
              refine ⟨k + 1, c + n, O ++ xt.data.toList.map (fun z => (z, (-1 : Int))), by omega, by omega, by go_num, by go_num, HE3.out, ?_, ?_, ?_, xrj⟩
              · have := HOK5.out
                rw [show ((c : Int) + (n : Int)).toNat = c + n from by omega] at this
                exact this
              · rw [List.length_append, List.length_map]
                omega
              · rw [List.length_append, List.length_map]; exact hownj)
    · have : k = l.length := by omega
      subst this
      have heq := HEQ.out
      rw [List.drop_length] at heq
      have HEQ3 := Lib.hid heq
      clear heq HEQ HOKK
      have hcut := IsY.cut hby a b.length (by omega) (by omega)
      have hcl : ((b.drop a).take (b.length - a)) = b.drop a := List.take_of_length_le (by simp)
      obtain ⟨q, hq⟩ : ∃ q, (if capb = a then aob else aob.map (·.add (a * 2))) = q := ⟨_, rfl⟩
      rw [hq] at hcut
      all_goals (
        have HCUT := Lib.hid hcut
        clear hcut
        go_wp2_with (at_builtin; go_must (refine wp_app tyY rfl _ _ rfl _ _ _ _ hown (by rfl) _ (b.length - a) _ HCUT.out (by rfl) (byC_one _) (by omega) (by omega) (by omega) ?_); intro v4 w4 hown4 hgrow4)
        have x4 := own_base hown hgrow4 xr (Nat.le_refl _)
        go_wp2
        go_ret
        rw [hcl, ← List.flatMap_append] at hown4
        have e := HEQ3.out
        simp only [doB] at e
        rw [e] at hown4
        refine ⟨_, out.length + (b.length - a), rfl, hown4, ?_, by omega, x4⟩
        rw [← e, List.length_append, List.length_drop])
end Go.Proofs.YtgcbkhmaabmdjaaDoor
