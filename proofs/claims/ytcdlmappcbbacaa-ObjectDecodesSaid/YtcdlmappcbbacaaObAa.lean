/- The walk of the law ObjectDecodes. -/
import Derived.Test.YtcdlmappcbbacaaObZb
import Derived.Test.YtcdlmappcbbacaaObZc
import Derived.Test.YtcdlmappcbbacaaObV
import Derived.Test.YtcdlmappcbbacaaObF
namespace Go.Proofs.Ytcdlmappcbbacaa
open Go.RowKit
set_option linter.unusedVariables false
set_option linter.unusedSimpArgs false

theorem refDecode (w : World) (v : Value) (l : List UInt8) (h : IsB w v l) (hb : l.length ≤ 140737488355328) :
    Calls Try.prog 8 #[v] w (DecEnd (decP l) w) := by
  by_cases h0 : 0 < l.length
  · by_cases k1 : l[0].toNat = 1
    · exact refDecode1 w v l h hb h0 k1
    · by_cases k2 : l[0].toNat = 2
      · exact refDecode2 w v l h hb h0 k2
      · by_cases k3 : l[0].toNat = 3
        · exact refDecode3 w v l h hb h0 k3
        · exact refDecode0 w v l h hb (fun _ => by omega)
  · exact refDecode0 w v l h hb (fun q => absurd q h0)
theorem entEq_iff (a b : EntL) : entEq a b = true ↔ a = b := by
  unfold entEq
  simp only [Bool.and_eq_true, beq_iff_eq, decide_eq_true_eq]
  constructor
  · rintro ⟨⟨h1, h2⟩, h3⟩
    have h1' : a.name = b.name := by
      rw [ByteArray.toList_eq, ByteArray.toList_eq] at h1
      exact ByteArray.ext (Array.toList_inj.1 h1)
    cases a; cases b; simp_all
  · rintro rfl
    exact ⟨⟨rfl, rfl⟩, rfl⟩
theorem same_self (o : ObjL) : sameB o o = true := by
  unfold sameB
  have h1 : listEq entEq o.ents o.ents = true := (listEq_same entEq entEq_iff _ _).2 rfl
  have h2 : listEq idEq o.pars o.pars = true := (listEq_same idEq (fun a b => by unfold idEq; simp) _ _).2 rfl
  rw [h1, h2]
  simp

set_option maxHeartbeats 8000000 in
set_option maxRecDepth 100000 in
theorem walkObjectDecodes (w : World) (v : Value) (l : List UInt8) (h : IsB w v l) (hb : l.length ≤ 140737488351232) :
    Calls Try.prog 3 #[v] w fun e w' => e = .returned (.bool true) ∧ Below w.heap.size w w' := by
  obtain ⟨ao, cap, rfl⟩ := sl_len h
  go_enter Try.func3, Try.ntmps3
  go_wp2_with fail
  refine (wakes05 _).mono ?_
  rintro e w1 ⟨rfl, x1⟩
  by_cases hbig : 20000 < l.length
  · go_wp2
    go_ret
    exact ⟨rfl, x1⟩
  have h1 := h.ext x1
  have o0 := World.ownsRow_made (base := w1.heap.size) (e := 5) (size := 1) w1 #[] 0 (Nat.le_refl _) (by decide) rfl
  have H1 := Lib.hid h1
  clear h h1
  go_wp2_with (at_builtin; refine wp_app tyB rfl _ _ rfl w1.heap.size _ 0 [] o0 (by rfl) _ l.length (l.map bc) (IsB.ext H1.out ((Ext.refl _).alloc _)) (by rfl) (bc_one l) (by omega) (by omega) (by simp) ?_; intro v2 w2 own2 gr2)
  have x2 := own_base o0 gr2 ((Ext.refl w1).alloc _) (Nat.le_refl _)
  rw [List.nil_append] at own2
  refine Calls.mono (objDecode _ _ l (IsB.of_owns own2) (by omega)) ?_
  rintro e w3 ⟨QR, vb, ve, vp, rfl, hR, x3⟩
  have H3 := Lib.hid ((H1.out.ext x2).ext x3)
  have X3 := (x1.trans x2).trans x3
  have hsz := hR.size
  have hob := hR.one
  have hinfo := hR.info
  have bR := heap_alloc_new w3 (.cells QR 30)
  have xa : Ext w3 (w3.alloc (.cells QR 30)) := (Ext.refl w3).alloc _
  have HR := Lib.hid (hR.ext xa)
  clear hR own2 gr2 o0 H1
  obtain ⟨D, hD⟩ : ∃ D, decP l = D := ⟨_, rfl⟩
  rw [hD] at HR ⊢
  have HD := Lib.hid hD
  clear hD
  obtain ⟨o, er⟩ := D
  simp only at HR
  go_wp2_with ((with_reducible refine at_store 30 (.tmp 3) (.tmp 17) ?_); refine wpl_store (by rfl) 30 (.tmp 3) (.tmp 17) rfl w3.heap.size QR (by rfl) (by rfl) 30 _ (heap_alloc_new _ _) hinfo (by rw [hsz]; rfl) hob ?_; rw [World.setRow_alloc_new])
  refine Calls.mono (refDecode _ _ l (H3.out.ext xa) (by omega)) ?_
  rintro e w4 ⟨QS, vb2, ve2, vp2, rfl, hS, x4⟩
  rw [HD.out] at hS ⊢
  simp only at hS
  have bR4 := x4.keeps bR
  have HR4 := Lib.hid (HR.out.ext x4)
  have hsz2 := hS.size
  have hob2 := hS.one
  have hinfo2 := hS.info
  have bS := heap_alloc_new w4 (.cells QS 30)
  have xs : Ext w4 (w4.alloc (.cells QS 30)) := (Ext.refl w4).alloc _
  have bR5 := xs.keeps bR4
  have HA := Lib.hid (HR4.out.ext xs)
  have HB := Lib.hid (hS.ext xs)
  have X5 := ((X3.trans xa).trans x4).trans xs
  clear hS bR4 HR4 HR H3
  generalize hB3 : w3.heap.size = B3 at *
  go_wp2_with (first
    | ((with_reducible refine at_store 30 (.tmp 5) (.tmp 22) ?_); refine wpl_store (by rfl) 30 (.tmp 5) (.tmp 22) rfl w4.heap.size QS (by rfl) (by rfl) 30 _ (heap_alloc_new _ _) hinfo2 (by rw [hsz2]; rfl) hob2 ?_; rw [World.setRow_alloc_new])
    | ((with_reducible refine at_load 30 (.tmp 3) ?_); refine wpl_load (by rfl) 30 (.tmp 3) rfl B3 (by rfl) 30 QR (0, 0) _ bR5 Try.underlying30 rfl hinfo ?_)
    | ((with_reducible refine at_load 30 (.tmp 5) ?_); refine wpl_load (by rfl) 30 (.tmp 5) rfl w4.heap.size (by rfl) 30 QS (0, 0) _ bS Try.underlying30 rfl hinfo2 ?_)
    | (go_at_call 9; refine Calls.mono (refSameO _ _ _ _ _ _ _ _ _ _ _ HA.out HB.out) ?_; rw [same_self]; rintro e w6 ⟨rfl, x6⟩))
  go_ret
  exact ⟨rfl, X5.trans x6⟩
end Go.Proofs.Ytcdlmappcbbacaa
