/- The walk of the law ObjectAgain. -/
import Derived.Test.YtcdlmappcbbacaaObV
import Derived.Test.YtcdlmappcbbacaaObW
import Derived.Test.YtcdlmappcbbacaaObE
namespace Go.Proofs.Ytcdlmappcbbacaa
open Go.RowKit
set_option linter.unusedVariables false
set_option linter.unusedSimpArgs false

theorem same_zero : sameB (zObj 0) (zObj 0) = true := by
  unfold sameB
  simp [zObj, listEq, note_empty]

set_option maxHeartbeats 8000000 in
set_option maxRecDepth 100000 in
theorem walkObjectAgain (w : World) (v : Value) (l : List UInt8) (h : IsB w v l) (hb : l.length ≤ 140737488351232) :
    Calls Try.prog 4 #[v] w fun e w' => e = .returned (.bool true) ∧ Below w.heap.size w w' := by
  obtain ⟨ao, cap, rfl⟩ := sl_len h
  go_enter Try.func4, Try.ntmps4
  go_wp2_with fail
  refine (wakes05 _).mono ?_
  rintro e w1 ⟨rfl, x1⟩
  by_cases hbig : 20000 < l.length
  · go_wp2
    go_ret
    exact ⟨rfl, x1⟩
  go_wp2_with fail
  have h1 := h.ext x1
  refine Calls.mono (objDecode _ _ l h1 (by omega)) ?_
  rintro e w2 ⟨QR, vb, ve, vp, rfl, hR, x2⟩
  have h2 := Lib.hid (h1.ext x2)
  have X2 := x1.trans x2
  have hsz := hR.size
  have hob := hR.one
  have hinfo := hR.info
  have bR := heap_alloc_new w2 (.cells QR 30)
  have X3 := X2.alloc (.cells QR 30)
  have x3 : Ext w2 (w2.alloc (.cells QR 30)) := (Ext.refl w2).alloc _
  have HR := Lib.hid hR
  clear h h1 hR
  by_cases hz : (decP l).2 = 0
  · obtain ⟨o, ho⟩ : ∃ o, decP l = (o, 0) := ⟨(decP l).1, by rw [← hz]⟩
    obtain ⟨q1, q2⟩ := enc_dec ho (by omega)
    have hO := HR.out.ext x3
    rw [ho] at hO
    rw [ho]
    simp only at hO
    clear hz
    go_wp2_with (first
      | ((with_reducible refine at_store 30 (.tmp 3) (.tmp 15) ?_); refine wpl_store (by rfl) 30 (.tmp 3) (.tmp 15) rfl w2.heap.size QR (by rfl) (by rfl) 30 _ (heap_alloc_new _ _) hinfo (by rw [hsz]; rfl) hob ?_; rw [World.setRow_alloc_new])
      | ((with_reducible refine at_load 30 (.tmp 3) ?_); refine wpl_load (by rfl) 30 (.tmp 3) rfl w2.heap.size (by rfl) 30 QR (0, 0) _ bR Try.underlying30 rfl hinfo ?_))
    refine Calls.mono (objEncode _ _ _ _ _ _ hO) ?_
    rintro e w4 ⟨v4, rfl, own4, x4⟩
    have e4 : encO o = l := by unfold encO; rw [q2, if_pos rfl, q1]
    rw [e4] at own4
    rw [q2]
    unfold chkE
    rw [if_pos rfl]
    have h4 := (h2.out.ext x3).ext x4
    have hv4 := IsB.of_owns own4
    have hll : (l == l) = true := by simp
    clear hO HR ho own4 e4
    go_wp2_with (go_at_call 12; refine Calls.mono (octetEqual _ _ _ l l h4 hv4) ?_; rw [hll]; rintro e w5 ⟨rfl, x5⟩)
    go_ret
    exact ⟨rfl, (X3.trans x4).trans (toExt x5)⟩
  · have hO := HR.out.ext x3
    rw [dec_err hz] at hO
    obtain ⟨er, her⟩ : ∃ er, (decP l).2 = er := ⟨_, rfl⟩
    rw [her] at hz ⊢
    have hz' : (er != 0) = true := by simpa using hz
    clear hz her
    go_wp2_with (first
      | ((with_reducible refine at_store 30 (.tmp 3) (.tmp 15) ?_); refine wpl_store (by rfl) 30 (.tmp 3) (.tmp 15) rfl w2.heap.size QR (by rfl) (by rfl) 30 _ (heap_alloc_new _ _) hinfo (by rw [hsz]; rfl) hob ?_; rw [World.setRow_alloc_new])
      | ((with_reducible refine at_load 30 (.tmp 3) ?_); refine wpl_load (by rfl) 30 (.tmp 3) rfl w2.heap.size (by rfl) 30 QR (0, 0) _ bR Try.underlying30 rfl hinfo ?_))
    refine Calls.mono (objSame _ _ _ _ _ _ _ _ _ _ _ hO (zObj_is _ 0 (by decide))) ?_
    rw [same_zero]
    rintro e w4 ⟨rfl, x4⟩
    go_wp2
    go_ret
    exact ⟨rfl, X3.trans x4⟩
end Go.Proofs.Ytcdlmappcbbacaa
