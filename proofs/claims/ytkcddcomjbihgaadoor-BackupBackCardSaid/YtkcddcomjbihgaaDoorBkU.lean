/- Backup: wakes. -/
import Derived.Test.YtkcddcomjbihgaaDoorBkT
import Derived.Lib.SmallJoins
namespace Go.Proofs.YtkcddcomjbihgaaDoor
open Go.RowKit
set_option linter.unusedVariables false
set_option linter.unusedSimpArgs false

def vK : Vw := ⟨1, 1, 2⟩
def pA1 : Pr := ⟨1, ⟨1, 1, 2⟩, (1, 0), [], false, false, false, 0⟩
def pB1 : Pr := ⟨2, ⟨1, 1, 2⟩, (0, 0), [], false, false, false, 0⟩
def pA2 : Pr := ⟨1, ⟨1, 1, 2⟩, (1, 0), [⟨(1, 1), [97]⟩], false, false, false, 0⟩
def pB2 : Pr := ⟨2, ⟨1, 1, 2⟩, (1, 1), [], false, true, true, 0⟩
def nH : Nt := ⟨1, 1, (0, 0), (0, 0), []⟩
def nW : Nt := ⟨4, 1, (1, 1), (0, 0), [87]⟩
theorem wkEntA : enterP (newP 1) vK = pA1 ∧ entErr (newP 1) vK = 0 := ⟨by kernel_rfl, by kernel_rfl⟩
theorem wkEntB : enterP (newP 2) vK = pB1 ∧ entErr (newP 2) vK = 0 := ⟨by kernel_rfl, by kernel_rfl⟩
theorem wkApp : keptP pA1 ⟨nextM pA1, [97]⟩ = pA2 ∧ appErr pA1 [97] = 0 ∧ nextM pA1 = (1, 1) := ⟨by kernel_rfl, by kernel_rfl, by kernel_rfl⟩
theorem wkTick : tickL pB1 [] = [⟨1, encN nH⟩] ∧ tickErr pB1 = 0 := ⟨by kernel_rfl, by kernel_rfl⟩
theorem nHok : NtOk nH := ⟨⟨by decide, by decide⟩, by decide, ⟨by decide, by decide⟩, ⟨by decide, by decide⟩⟩
theorem nWok : NtOk nW := ⟨⟨by decide, by decide⟩, by decide, ⟨by decide, by decide⟩, ⟨by decide, by decide⟩⟩
theorem nHn : notedB nH = true := by kernel_rfl
theorem nWn : notedB nW = true := by kernel_rfl
theorem wkT1 : takeErr pA2 2 (encN nH) = 0 ∧ takeP pA2 2 (decN (encN nH)) = pA2 ∧ takeL pA2 2 (decN (encN nH)) [87] = [⟨2, encN nW⟩] := by
  rw [decN_enc nHok nHn]
  refine ⟨?_, by kernel_rfl, by kernel_rfl⟩
  unfold takeErr
  rw [if_neg (show ¬ rightB pA2 = false by decide), if_neg (by decide), decErr_enc nHok nHn]
theorem wkT2 : takeErr pB1 1 (encN nW) = 0 ∧ takeP pB1 1 (decN (encN nW)) = pB2 ∧ takeW pB1 1 (decN (encN nW)) = [⟨true, [87]⟩] := by
  rw [decN_enc nWok nWn]
  refine ⟨?_, by kernel_rfl, by kernel_rfl⟩
  unfold takeErr
  rw [if_neg (show ¬ rightB pB1 = false by decide), if_neg (by decide), decErr_enc nWok nWn]
theorem wkReady : readyB pB2 = true := by kernel_rfl
theorem okA0 : PrOk (newP 1) := ⟨⟨by decide, by decide⟩, by decide, ⟨by decide, by decide⟩, ⟨by decide, by decide⟩, ⟨by decide, by decide⟩, by decide⟩
theorem okB0 : PrOk (newP 2) := ⟨⟨by decide, by decide⟩, by decide, ⟨by decide, by decide⟩, ⟨by decide, by decide⟩, ⟨by decide, by decide⟩, by decide⟩
theorem okA1 : PrOk pA1 := ⟨⟨by decide, by decide⟩, by decide, ⟨by decide, by decide⟩, ⟨by decide, by decide⟩, ⟨by decide, by decide⟩, by decide⟩
theorem okB1 : PrOk pB1 := ⟨⟨by decide, by decide⟩, by decide, ⟨by decide, by decide⟩, ⟨by decide, by decide⟩, ⟨by decide, by decide⟩, by decide⟩
theorem okA2 : PrOk pA2 := ⟨⟨by decide, by decide⟩, by decide, ⟨by decide, by decide⟩, ⟨by decide, by decide⟩, ⟨by decide, by decide⟩, by decide⟩
theorem okB2 : PrOk pB2 := ⟨⟨by decide, by decide⟩, by decide, ⟨by decide, by decide⟩, ⟨by decide, by decide⟩, ⟨by decide, by decide⟩, by decide⟩
theorem ext_new (w : World) (o : Obj) (c : Array Value) : Ext w ((w.alloc o).setRow w.heap.size c) := ((Ext.refl w).alloc o).grown grown_setRow (fun k hk => by cases hk; exact Nat.le_refl _)
theorem new_row (w : World) (c0 c : Array Value) (t : TypeId) : ((w.alloc (.cells c0 t)).setRow w.heap.size c).heap[w.heap.size]? = some (.cells c t (0, 0)) := setRow_heap _ _ _ _ _ _ (heap_alloc_new w _)
theorem lgNilU (w : World) (l : List LgE) (h : l = []) : IsLgU w (.slice none 0 0) l [] := by subst h; exact ⟨rfl, IsSl.nil w 3, fun i hi => absurd hi (Nat.not_lt_zero _)⟩
theorem lgNilF (w : World) (base : Nat) (l : List LgE) (h : l = []) : LgFr w base (.slice none 0 0) l [] := by subst h; exact LgFr.nil w base
def okLg (l : List LgE) : Prop := ∀ e ∈ l, lgOk e
theorem okLA2 : ∀ e ∈ pA2.log, lgOk e := by
  intro e he
  obtain rfl : e = ⟨(1, 1), [97]⟩ := by simpa [pA2] using he
  exact ⟨⟨by decide, by decide⟩, by decide⟩
theorem new_ok (i : Int) (h : serverB i = true) : serverB i = true := h
theorem IsB.newF {w : World} {e : TypeId} {c : Array Value} {n b : Nat} {f : Nat × Nat} (l : List UInt8) (hb : w.heap.size = b) (hn : l.length = n) (hc : c.toList = l.map bc) (hm : n ≤ 9223372036854775807) : IsB (w.alloc (.cells c e f)) (.slice (some ⟨b, 0, none⟩) n n) l := by
  subst hn
  subst hb
  refine ⟨by simp, _, _, rfl, Nat.le_refl _, hm, (fun h => by cases h), fun i hi => ⟨_, 0, rfl, ?_⟩⟩
  rw [Nat.zero_add, block_cell (heap_alloc_new w (.cells c e f)), ← hc, Array.getElem?_toList]
/-- One letter's cells. -/
theorem lt_cells {w : World} {base : Nat} {v : Value} {e : LtE} {us : List Hd} (h : LtOwn w base v [e] us) : ∃ g u cap, us = [u] ∧ v = .slice (some ⟨g, 0, none⟩) 1 cap ∧ w.cell? ⟨g, 0, none⟩ = some (.int .i64 e.who) ∧ w.cell? ⟨g, 1, none⟩ = some (.slice u.1 e.b.length u.2) ∧ OwnB w base (.slice u.1 e.b.length u.2) e.b := by
  obtain ⟨hl, ho, hb⟩ := h
  match us, hl with
  | [u], _ =>
    obtain ⟨g, cap, rfl, -⟩ := own_row ho (by simp)
    refine ⟨g, u, cap, rfl, rfl, ?_, ?_, hb 0 (by simp) u rfl⟩
    · exact ho.cellAt 0 (by simp [ltCs, ltV])
    · exact ho.cellAt 1 (by simp [ltCs, ltV])
theorem wk_cells {w : World} {base : Nat} {v : Value} {e : WkE} {us : List Hd} (h : WkOwn w base v [e] us) : ∃ g u cap, us = [u] ∧ v = .slice (some ⟨g, 0, none⟩) 1 cap ∧ w.cell? ⟨g, 0, none⟩ = some (.bool e.whole) ∧ w.cell? ⟨g, 1, none⟩ = some (.slice u.1 e.b.length u.2) ∧ OwnB w base (.slice u.1 e.b.length u.2) e.b := by
  obtain ⟨hl, ho, hb⟩ := h
  match us, hl with
  | [u], _ =>
    obtain ⟨g, cap, rfl, -⟩ := own_row ho (by simp)
    refine ⟨g, u, cap, rfl, rfl, ?_, ?_, hb 0 (by simp) u rfl⟩
    · exact ho.cellAt 0 (by simp [wkCs, wkV])
    · exact ho.cellAt 1 (by simp [wkCs, wkV])
end Go.Proofs.YtkcddcomjbihgaaDoor
