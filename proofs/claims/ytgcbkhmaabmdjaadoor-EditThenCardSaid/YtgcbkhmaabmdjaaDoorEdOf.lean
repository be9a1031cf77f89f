/- edit.of again: what it hands back lies where the edits lay. -/
import Derived.Test.YtgcbkhmaabmdjaaDoorEdE
namespace Go.Proofs.YtgcbkhmaabmdjaaDoor
open Go.RowKit
set_option linter.unusedVariables false
set_option linter.unusedSimpArgs false

set_option maxHeartbeats 4000000 in
set_option maxRecDepth 100000 in
theorem editOf2 (W0 w : World) (v : Value) (l : List Ed) (s : ByteArray) (h0 : IsE W0 v l) (hE : IsE w v l) :
    Calls Tryd.prog 30 #[v, .string s] w fun e w' => ∃ v', e = .returned v' ∧ IsE W0 v' (ofL l s) ∧ Ext w w' := by
  have hx := hE.ext ((Ext.refl w).alloc (.cells #[.string s] 9))
  obtain ⟨ao, cap, rfl, b1, m1, z1, g1⟩ := hE.opened
  have G1 := Lib.hid g1
  clear z1 g1
  go_enter Tryd.func30, Tryd.ntmps30
  go_wp2_with fail
  refine Calls.mono (indexFuncOf _ _ l hx ⟨w.heap.size, 0, none⟩ (.string s) (by rw [World.cell?_alloc_new]; rfl) (fun e => e.path.toList == s.toList) (fun W x hq _ => ofClosure W x _ s hq)) ?_
  rintro e w1 ⟨r, rfl, hf, x1⟩
  have xr := ((Ext.refl w).alloc _).trans x1
  have hc := x1.cell (show (w.alloc (.cells #[.string s] 9)).cell? ⟨w.heap.size, 0, none⟩ = some (.string s) from by rw [World.cell?_alloc_new]; rfl)
  rcases hf with ⟨i, hi, rfl, hp, hlt⟩ | ⟨rfl, hno⟩
  · have HP := Lib.hid hp
    have HLT := Lib.hid hlt
    clear hp hlt
    go_wp2_with fail
    go_loopg [6] l.length (fun g s6 wr => ∃ (k q : Nat), i ≤ k ∧ k ≤ l.length ∧ l.length - k ≤ g ∧ s6 = .int .i64 k ∧ (∀ j (hj : j < l.length), i ≤ j → j < k → (l[j].path.toList == s.toList) = true) ∧ wr = w1.drewN q)
    case atStart => exact ⟨i, 0, Nat.le_refl _, by omega, by omega, rfl, fun j hj h1 h2 => absurd h2 (by omega), rfl⟩
    case round =>
      obtain ⟨k, q, hik, hk, hg, rfl, hall, rfl⟩ := hrel
      have HALL := Lib.hid hall
      clear hall
      by_cases hlt : k < l.length
      · obtain ⟨p, o, rfl, e0, e1, e2, e3⟩ := G1.out k hlt
        have e0 := xr.cell e0
        clear e1 e2 e3
        generalize hxx : l[k] = x at *
        have HX := Lib.hid hxx
        clear hxx
        have hlt' : ((k : Int) < (l.length : Int)) := by omega
        have hd : decide (k < l.length) = true := by simpa using hlt
        cases hb : (x.path.toList == s.toList)
        · have HB := Lib.hid hb
          go_wp2_with fail
          go_quiet (fail)
          clear hb
          have hol := ofL_some l s i k hi HLT.out HP.out hik (by omega) HALL.out (.inr ⟨hlt, by rw [HX.out]; exact HB.out⟩)
          have HOL := Lib.hid hol
          clear hol
          have hik' : (i : Int) ≤ k := by omega
          go_wp2
          all_goals go_ret
          all_goals
            have hcut := h0.cut i k k (by omega) (by omega) (Nat.le_refl _) (by omega)
            refine ⟨_, rfl, ?_, xr.drewN _⟩
            rw [HOL.out]
            by_cases hki : k = i
            · rw [if_pos hki] at hcut; subst hki; first | (simpa using hcut) | (exfalso; simp_all; done)
            · rw [if_neg hki] at hcut; first | (simpa [Addr.add_lit] using hcut) | (exfalso; simp_all; done)
        · have HB := Lib.hid hb
          go_wp2_with fail
          go_quiet (fail)
          go_wp2
          go_roundg (l.length - (k + 1))
          case measure => omega
          case rel =>
            refine ⟨k + 1, _, by omega, by omega, by omega, by go_num, fun j hj h1 h2 => ?_, rfl⟩
            by_cases e : j = k
            · subst e; rw [HX.out]; exact HB.out
            · exact HALL.out j hj h1 (by omega)
      · have : k = l.length := by omega
        subst this
        have hd : decide (l.length < l.length) = false := by simp
        go_wp2_with fail
        go_quiet (fail)
        have hol := ofL_some l s i l.length hi HLT.out HP.out hik (by omega) HALL.out (.inl rfl)
        have HOL := Lib.hid hol
        clear hol
        go_wp2
        all_goals go_ret
        all_goals
          have hcut := h0.cut i l.length l.length (by omega) (by omega) (Nat.le_refl _) (by omega)
          refine ⟨_, rfl, ?_, xr.drewN _⟩
          rw [HOL.out]
          rw [if_neg (by omega)] at hcut; first | exact hcut | (simpa [Addr.add_lit] using hcut)
  · have hol := ofL_none l s hno
    have HOL := Lib.hid hol
    clear hno hol
    go_wp2
    go_ret
    exact ⟨_, rfl, by rw [HOL.out]; exact ⟨IsSl.nil _ _, by simp⟩, xr⟩

end Go.Proofs.YtgcbkhmaabmdjaaDoor
