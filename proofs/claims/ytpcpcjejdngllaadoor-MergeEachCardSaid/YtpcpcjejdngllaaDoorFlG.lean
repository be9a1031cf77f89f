/- The closure of edit.Apply; slices.Clone at files. -/
import Derived.Test.YtpcpcjejdngllaaDoorFlE
import Derived.Test.YtpcpcjejdngllaaDoorEdA
import Derived.Lib.SliceRun
namespace Go.Proofs.YtpcpcjejdngllaaDoor
open Go.RowKit
set_option linter.unusedVariables false
set_option linter.unusedSimpArgs false

theorem infoFile : (Tryd.prog.info? 46).map (fun i => (i.zero, i.size, i.bytes)) = some (some (.agg #[.string ByteArray.empty, .string ByteArray.empty]), 2, 32) := by kernel_rfl
theorem tyFl : ETy Tryd.prog 22 46 (.agg #[.string ByteArray.empty, .string ByteArray.empty]) 2 32 := ⟨Tryd.underlying22, info_parts infoFile, rfl, by decide⟩
theorem flC_one (l : List Fl) : ∀ u ∈ l.flatMap flC, u.oneCell' = true := by
  intro u hu
  obtain ⟨x, _, hx⟩ := List.mem_flatMap.1 hu
  simp only [flC, List.mem_cons, List.not_mem_nil, or_false] at hx
  rcases hx with rfl | rfl <;> rfl

set_option maxHeartbeats 4000000 in
set_option maxRecDepth 100000 in
theorem cloneF (w : World) (v : Value) (l : List Fl) (h : IsF w v l) (hl : l.length ≤ 1000000) :
    Calls Tryd.prog 48 #[v] w fun e w' => ∃ v', e = .returned v' ∧ w'.ownsRow w.heap.size 46 2 v' l.length (l.flatMap flC) ∧ Ext w w' := by
  have hx := h
  have q22 : ∀ (w : World) (a : Option Addr) (n c n' c' : Nat), (binOp .eql 22 (.slice a n c) (.slice none n' c')).run Tryd.prog w = .ok (.bool a.isNone) w := fun w a n c n' c' => Lib.run_eql_slice_nil w _ _ a n c n' c' Tryd.underlying22
  obtain ⟨ao, cap, rfl, b1, m1, z1, g1⟩ := h.opened
  clear h
  cases ao with
  | none =>
    have hc := z1 rfl
    have hn : l = [] := List.eq_nil_of_length_eq_zero (by omega)
    subst hn
    subst hc
    clear g1 z1
    go_enter Tryd.func48, Tryd.ntmps48
    go_wp2
    go_ret
    exact ⟨_, rfl, World.ownsRow_nil _ _ _ _, Ext.refl _⟩
  | some a =>
    clear g1 z1
    have o0 := World.ownsRow_made (base := w.heap.size) (e := 46) (size := 2) w #[] 0 (Nat.le_refl _) (by decide) rfl
    go_enter Tryd.func48, Tryd.ntmps48
    go_wp2_with (at_builtin; refine wp_app tyFl rfl _ _ rfl w.heap.size _ 0 [] o0 (by rfl) _ l.length (l.flatMap flC) (hx.sl.ext ((Ext.refl _).alloc _)) (by rfl) (flC_one l) (by omega) (by omega) (by simp) ?_; intro v2 w2 own2 gr2)
    go_ret
    have x2 := own_base o0 gr2 ((Ext.refl w).alloc _) (Nat.le_refl _)
    rw [Nat.zero_add, List.nil_append] at own2
    exact ⟨v2, rfl, own2, x2⟩
end Go.Proofs.YtpcpcjejdngllaaDoor
