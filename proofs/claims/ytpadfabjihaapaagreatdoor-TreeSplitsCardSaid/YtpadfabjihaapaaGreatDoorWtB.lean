/- Plain facts on files in their order. -/
import Derived.Test.YtpadfabjihaapaaGreatDoorFlE
import Derived.Sort.Walk0
import Derived.Test.YtpadfabjihaapaaGreatDoorRfJ
import Derived.Test.YtpadfabjihaapaaGreatDoorLdE
import Derived.Test.YtpadfabjihaapaaGreatDoorRegG
import Derived.Test.YtpadfabjihaapaaGreatDoorRegC
import Derived.Test.YtpadfabjihaapaaGreatDoorRegP
import Derived.Laws.Externs
import Derived.Deep.DeepAppendWide
import Derived.Deep.DeepCutAuto
import Derived.BigGuardPart
import Derived.Outline
import Derived.Lib.AppendZerosOnto
import Derived.Test.YtpadfabjihaapaaGreatDoorOpn
namespace Go.Proofs.YtpadfabjihaapaaGreatDoor
open Go.RowKit
set_option linter.unusedVariables false
set_option linter.unusedSimpArgs false

/-- A path stands ahead of another. -/
def bl (a b : ByteArray) : Bool := Op.bytesLess a.toList b.toList
theorem bl_irr (a : ByteArray) : bl a a = false := by
  unfold bl; rw [bytesLess_eq, decide_eq_false_iff_not]; exact List.lt_irrefl _
theorem bl_tr {a b c : ByteArray} (h1 : bl a b = true) (h2 : bl b c = true) : bl a c = true := by
  unfold bl at *
  rw [bytesLess_eq, decide_eq_true_eq] at *
  exact List.lt_trans h1 h2
theorem bl_as {a b : ByteArray} (h1 : bl a b = true) : bl b a = false := by
  cases h : bl b a with
  | false => rfl
  | true => have := bl_tr h1 h; rw [bl_irr] at this; cases this
theorem bl_eq {a b : ByteArray} (h1 : bl a b = false) (h2 : bl b a = false) : a = b := by
  unfold bl at *
  rw [bytesLess_eq, decide_eq_false_iff_not] at *
  have : a.toList = b.toList := by
    rcases Std.lt_trichotomy b.toList a.toList with h3 | h3 | h3
    · exact absurd h3 h2
    · exact h3.symm
    · exact absurd h3 h1
  have h := ba_eq a b
  rw [this, beq_self_eq_true] at h
  exact of_decide_eq_true h.symm
end Go.Proofs.YtpadfabjihaapaaGreatDoor

namespace Go.Proofs.YtpadfabjihaapaaGreatDoor
open Go.RowKit
set_option linter.unusedVariables false
set_option linter.unusedSimpArgs false

end Go.Proofs.YtpadfabjihaapaaGreatDoor

namespace Go.Proofs.YtpadfabjihaapaaGreatDoor
open Go.RowKit
set_option linter.unusedVariables false
set_option linter.unusedSimpArgs false

theorem flC_oneL (l : List Fl) : ∀ c ∈ l.flatMap flC, c.oneCell' = true := by
  intro c hc
  obtain ⟨f, _, hf⟩ := List.mem_flatMap.1 hc
  exact flC_one1 f c hf
end Go.Proofs.YtpadfabjihaapaaGreatDoor

namespace Go.Proofs.YtpadfabjihaapaaGreatDoor
open Go.RowKit
set_option linter.unusedVariables false
set_option linter.unusedSimpArgs false

theorem takeFlat {α : Type} {enc : α → List Value} {k : Nat} (hk : ∀ x, (enc x).length = k) {l : List α} {i : Nat} (hi : i ≤ l.length) : (l.flatMap enc).take (i * k) = (l.take i).flatMap enc := by
  conv => lhs; rw [← List.take_append_drop i l, List.flatMap_append]
  exact List.take_left' (by rw [flatLen hk, List.length_take, Nat.min_eq_left hi])
theorem dropFlat {α : Type} {enc : α → List Value} {k : Nat} (hk : ∀ x, (enc x).length = k) {l : List α} {i : Nat} (hi : i ≤ l.length) : (l.flatMap enc).drop (i * k) = (l.drop i).flatMap enc := by
  conv => lhs; rw [← List.take_append_drop i l, List.flatMap_append]
  exact List.drop_left' (by rw [flatLen hk, List.length_take, Nat.min_eq_left hi])
end Go.Proofs.YtpadfabjihaapaaGreatDoor

namespace Go.Proofs.YtpadfabjihaapaaGreatDoor
open Go.RowKit
set_option linter.unusedVariables false
set_option linter.unusedSimpArgs false

end Go.Proofs.YtpadfabjihaapaaGreatDoor

namespace Go.Proofs.YtpadfabjihaapaaGreatDoor
open Go.RowKit
set_option linter.unusedVariables false
set_option linter.unusedSimpArgs false

theorem IsF.take {w : World} {pb o n c : Nat} {l : List Fl} (h : IsF w (.slice (some ⟨pb, o, none⟩) n c) l) {i : Nat} (hi : i ≤ l.length) : IsF w (.slice (some ⟨pb, o, none⟩) i c) (l.take i) := by
  obtain ⟨⟨h1, ao, cap, e, h2, h3, h4, h5⟩, ok⟩ := h
  simp only [Value.slice.injEq] at e
  obtain ⟨rfl, rfl, rfl⟩ := e
  have hle : (l.take i).length = i := by rw [List.length_take]; omega
  have hf : ((l.take i).flatMap flC).length = i * 2 := by rw [flatLen (k := 2) (fun _ => rfl), hle]
  refine ⟨⟨by rw [hf, hle], _, c, by rw [hle], by omega, h3, (fun h => by cases h), fun j hj => ?_⟩, fun f hf => ok f (List.mem_of_mem_take hf)⟩
  rw [hf] at hj
  obtain ⟨b, off, e1, e2⟩ := h5 j (by rw [h1]; omega)
  refine ⟨b, off, e1, ?_⟩
  rw [e2, ← takeFlat (enc := flC) (k := 2) (fun _ => rfl) hi, List.getElem?_take_of_lt hj]
theorem IsF.drop {w : World} {pb o n c : Nat} {l : List Fl} (h : IsF w (.slice (some ⟨pb, o, none⟩) n c) l) {i : Nat} (hi : i ≤ l.length) : IsF w (.slice (some ⟨pb, o + i * 2, none⟩) (l.length - i) (c - i)) (l.drop i) := by
  obtain ⟨⟨h1, ao, cap, e, h2, h3, h4, h5⟩, ok⟩ := h
  simp only [Value.slice.injEq] at e
  obtain ⟨rfl, rfl, rfl⟩ := e
  have hle : (l.drop i).length = l.length - i := List.length_drop
  have hf : ((l.drop i).flatMap flC).length = (l.length - i) * 2 := by rw [flatLen (k := 2) (fun _ => rfl), hle]
  refine ⟨⟨by rw [hf, hle], _, c - i, by rw [hle], by omega, by omega, (fun h => by cases h), fun j hj => ?_⟩, fun f hf => ok f (List.mem_of_mem_drop hf)⟩
  rw [hf] at hj
  obtain ⟨b, off, e1, e2⟩ := h5 (i * 2 + j) (by rw [h1]; omega)
  simp only [Option.some.injEq, Addr.mk.injEq] at e1
  obtain ⟨rfl, rfl, _⟩ := e1
  refine ⟨_, _, rfl, ?_⟩
  rw [← dropFlat (enc := flC) (k := 2) (fun _ => rfl) hi, List.getElem?_drop, Nat.add_assoc]
  exact e2
theorem IsF.none {w : World} {pb o : Nat} : IsF w (.slice (some ⟨pb, o, none⟩) 0 0) [] := ⟨⟨rfl, _, 0, rfl, Nat.le_refl _, by omega, (fun h => by cases h), fun j hj => absurd hj (Nat.not_lt_zero _)⟩, fun f h => by cases h⟩
end Go.Proofs.YtpadfabjihaapaaGreatDoor

namespace Go.Proofs.YtpadfabjihaapaaGreatDoor
open Go.RowKit
set_option linter.unusedVariables false
set_option linter.unusedSimpArgs false

set_option maxHeartbeats 4000000 in
set_option maxRecDepth 100000 in
theorem largeC (w : World) (v : Value) (l : List Fl) (h : IsF w v l) :
    Calls Tryz.prog 8 #[.agg #[v]] w fun e w' => ∃ b, e = .returned (.bool b) ∧ (b = false → l.length ≤ 100 ∧ ∀ f ∈ l, f.path.size ≤ 131072 ∧ f.text.size ≤ 131072) ∧ Ext w w' := by
  obtain ⟨ao, cap, rfl, b1, m1, z1, g1⟩ := h.opened
  have G1 := Lib.hid g1
  have HF := Lib.hid h
  clear g1 z1 h
  go_enter Tryz.func8, Tryz.ntmps8
  go_upto_region 1 with fail
  obtain ⟨G, hG⟩ : ∃ G, w.heap.size = G := ⟨_, rfl⟩
  rw [hG]
  refine wp_forgetH (fun W => Ext w W ∧ W.heap[G]? = some (.cells #[.slice ao l.length cap] 24 (0, 0))) ⟨(Ext.refl w).alloc _, blk_new hG⟩ ?_
  rintro w1 ⟨x1, b0⟩
  have k0 := block_allH b0
  go_wp2_with fail
  clear k0
  go_loopg [3, 9] l.length (fun q s3 s9 wr => ∃ j K : Nat, j ≤ l.length ∧ l.length - j ≤ q ∧ s9 = .int .i64 (j : Int) ∧ s3 = .int .i64 (K : Int) ∧ K ≤ 131072 ∧ j ≤ 100 ∧ (∀ f ∈ l.take j, f.path.size ≤ 131072 ∧ f.text.size ≤ 131072) ∧ Ext w wr)
  case atStart => exact ⟨0, 0, Nat.zero_le _, by omega, rfl, rfl, by omega, by omega, fun f hf => by simp at hf, x1⟩
  case round =>
  obtain ⟨j, K, hj, hq, rfl, rfl, hK, hj1, hall, xr⟩ := hrel
  have HALL := Lib.hid hall
  clear hall
  by_cases hlt : j < l.length
  · obtain ⟨pb, o, rfl, e0, e1⟩ := G1.out j hlt
    have e0 := xr.cell e0
    have e1 := xr.cell e1
    have htk : l.take (j + 1) = l.take j ++ [l[j]] := by rw [List.take_succ_eq_append_getElem hlt]
    have hok := HF.out.ok _ (List.getElem_mem hlt)
    generalize l[j] = f at *
    have HTKJ := Lib.hid htk
    obtain ⟨ok1, ok2⟩ := hok
    clear htk
    go_upto_region 6 with fail
    obtain ⟨NN, hNN⟩ : ∃ NN : Nat, (K : Int) + (min (f.text.size : Int) 1048576 + min (f.path.size : Int) 1048576) = (NN : Int) := ⟨K + (min f.text.size 1048576 + min f.path.size 1048576), by omega⟩
    rw [hNN]
    refine wp_forgetH (fun W => Ext wr W) ((Ext.refl wr).alloc _) ?_
    rintro w2 x2
    by_cases h100 : j = 100
    · have d1 : decide ((j : Int) = 100) = true := decide_eq_true (by omega)
      clear hNN
      go_wp2_with fail
      exact bodyPost_ret (results_t rfl _ _) rfl ⟨true, rfl, (fun h => by cases h), xr.trans x2⟩
    · have d1 : decide ((j : Int) = 100) = false := decide_eq_false (by omega)
      by_cases hgt : 131072 < NN
      · have d2 : decide ((131072 : Int) < (NN : Int)) = true := decide_eq_true (by omega)
        clear hNN
        go_wp2_with fail
        exact bodyPost_ret (results_t rfl _ _) rfl ⟨true, rfl, (fun h => by cases h), xr.trans x2⟩
      · have d2 : decide ((131072 : Int) < (NN : Int)) = false := decide_eq_false (by omega)
        have hf1 : f.path.size ≤ 131072 ∧ f.text.size ≤ 131072 := by omega
        have HF1 := Lib.hid hf1
        have hNK : NN ≤ 131072 := by omega
        have hj99 : j + 1 ≤ 100 := by omega
        clear hNN hf1
        go_wp2_with fail
        go_roundg (l.length - (j + 1))
        case measure => omega
        case rel =>
          refine ⟨j + 1, NN, by omega, by omega, by go_num, rfl, hNK, hj99, fun x hx => ?_, xr.trans x2⟩
          rw [HTKJ.out] at hx
          rcases List.mem_append.1 hx with q | q
          · exact HALL.out x q
          · rw [List.mem_singleton.1 q]; exact HF1.out
  · obtain rfl : j = l.length := by omega
    have hall := HALL.out
    rw [List.take_length] at hall
    have HALL2 := Lib.hid hall
    clear hall
    go_wp2_with fail
    exact bodyPost_ret (results_t rfl _ _) rfl ⟨false, rfl, (fun _ => ⟨hj1, HALL2.out⟩), xr⟩

theorem new2s7 {w : World} {G : Nat} (hG : w.heap.size = G) (a b : Obj) : Ext w ((w.alloc a).alloc b) ∧ ((w.alloc a).alloc b).heap[G]? = some a ∧ ((w.alloc a).alloc b).heap[G + 1]? = some b :=
  ⟨((Ext.refl w).alloc _).alloc _, blk_old (blk_new hG), blk_new (by simp [hG])⟩
set_option maxHeartbeats 4000000 in
set_option maxRecDepth 100000 in
theorem copiedC (w : World) (v : Value) (l : List Fl) (h : IsF w v l) (hl : l.length ≤ 1000000) :
    Calls Tryz.prog 10 #[.agg #[v]] w fun e w' => ∃ v', e = .returned (.agg #[v']) ∧ IsF w' v' l ∧ Ext w w' := by
  obtain ⟨zE, tyE⟩ := tyFi
  obtain ⟨ao, cap, rfl⟩ := sl_len h.sl
  obtain ⟨_, k1, m1⟩ := sl_cap h.sl
  go_enter Tryz.func10, Tryz.ntmps10
  go_upto_region 1 with fail
  generalize hG : w.heap.size = G at *
  refine wp_forgetH (fun W => Ext w W ∧ W.heap[G]? = some (.cells #[.slice ao l.length cap] 24 (0, 0)) ∧ W.heap[G + 1]? = some (.cells #[.slice none 0 0] 24 (0, 0))) (new2s7 hG _ _) ?_
  rintro w1 ⟨x1, b0, b1⟩
  have o0 := World.ownsRow_made (base := w1.heap.size) (e := 66) (size := 2) w1 #[] 0 (Nat.le_refl _) (by decide) rfl
  have hh := h.ext x1
  have x2 : Ext w1 (w1.alloc (.cells #[] 66)) := (Ext.refl w1).alloc _
  have k0 := block_allH (x2.keeps b0)
  have b1 := x2.keeps b1
  have HB1 := Lib.hid b1
  have HH := Lib.hid hh
  clear h hh b0 b1
  go_wp2_with (first
    | (at_builtin; refine wp_app (w := w1.alloc (.cells #[] 66)) tyE rfl (.tmp 3) (.tmp 5) rfl w1.heap.size _ 0 [] o0 (by rfl) _ l.length (l.flatMap flC) (HH.out.sl.ext x2) (by rfl) (flC_oneL l) (by omega) (by omega) (by have := x2.size; omega) ?_; intro v2 w2 own2 gr2; obtain ⟨a2, c2, rfl⟩ := ownSh own2; have b2 := grown_keep gr2 HB1.out (own_neH o0 HB1.out (by decide)); have kk2 := block_allH b2; have ff2 := fun z => block_free b2 z))
  have gF : w2.grownBy (w2.setCell ⟨G + 1, 0, none⟩ (.slice a2 l.length c2)) (some (G + 1)) := grown_setCell _ _ _ _
  have hfin := block_setCell b2 (i := 0) (.slice a2 l.length c2)
  rw [Nat.zero_add, List.nil_append] at own2
  have oF := ownsRow_grown own2 gF (own_neH own2 b2 (by decide))
  have hs1 := x1.size
  have xF := ((own_base o0 gr2 (x1.trans x2) (by omega)).grown gF (fun k hk => by cases hk; omega))
  refine bodyPost_ret (results_cellH rfl _ _ (G + 1) _ _ _ _ (by rfl) hfin Tryz.underlying24 rfl (infoRp _)) rfl ⟨_, rfl, ⟨IsSl.of_owns oF, HH.out.ok⟩, xF⟩
end Go.Proofs.YtpadfabjihaapaaGreatDoor

namespace Go.Proofs.YtpadfabjihaapaaGreatDoor
open Go.RowKit
set_option linter.unusedVariables false
set_option linter.unusedSimpArgs false

end Go.Proofs.YtpadfabjihaapaaGreatDoor

namespace Go.Proofs.YtpadfabjihaapaaGreatDoor
open Go.RowKit
set_option linter.unusedVariables false
set_option linter.unusedSimpArgs false

end Go.Proofs.YtpadfabjihaapaaGreatDoor

namespace Go.Proofs.YtpadfabjihaapaaGreatDoor
open Go.RowKit Go.Deep Go.ChangeShapes Go.WideShapes
set_option linter.unusedVariables false

section
variable {H : Type} {enc : TypeId × Value → H} {w : World}
set_option maxRecDepth 100000 in
theorem opens_file : Opens enc Tryz.prog w 66 (fun cs => ∃ f : Fl, cs = flC f ∧ (flC f).length = 2 ∧ flOk f) := by
  refine (opens_struct Tryz.underlying66 2 (by kernel_rfl)
    [fun cs => ∃ s : ByteArray, cs = [.string s] ∧ s.size ≤ 140737488351232, fun cs => ∃ s : ByteArray, cs = [.string s] ∧ s.size ≤ 140737488351232] rfl ?_).mono ?_
  · intro i f hf ok hok
    match i with
    | 0 => cases hf; cases hok; exact opens_string Tryz.underlying9
    | 1 => cases hf; cases hok; exact opens_string Tryz.underlying9
    | i + 2 => cases hok
  · rintro cs ⟨hl, h⟩
    obtain ⟨s, e0, hs⟩ := h 0 _ rfl _ rfl
    obtain ⟨t, e1, ht⟩ := h 1 _ rfl _ rfl
    have a2 : cs.drop (1 + 1) = [] := List.drop_eq_nil_of_le (by omega)
    have a1 := cut_at 1 1 a2
    have a0 := cut_at 0 1 a1
    rw [List.drop_zero] at a0
    refine ⟨⟨s, t⟩, ?_, rfl, ⟨Nat.le_trans hs (by omega), Nat.le_trans ht (by omega)⟩⟩
    rw [a0]
    exact congr (congrArg _ e0) (congr (congrArg _ e1) rfl) |>.trans (by simp [flC])
set_option maxRecDepth 100000 in
theorem opens_repo : Opens enc Tryz.prog w 24 (fun cs => ∃ (v : Value) (l : List Fl), cs = [v] ∧ IsF w v l) := by
  refine (opens_struct Tryz.underlying24 1 (by kernel_rfl)
    [fun cs => ∃ (v : Value) (xs : List Fl), cs = [v] ∧ IsSl w v 2 xs.length (xs.flatMap flC) ∧ (∀ x ∈ xs, flOk x) ∧ xs.length * 32 ≤ 140737488351232] rfl ?_).mono ?_
  · intro i f hf ok hok
    match i with
    | 0 => cases hf; cases hok; exact opens_slice 2 32 flC flOk Tryz.underlying22 (by kernel_rfl) (by omega) (by kernel_rfl) opens_file
    | i + 1 => cases hok
  · rintro cs ⟨hl, h⟩
    obtain ⟨v, l, e0, h1, h2, _⟩ := h 0 _ rfl _ rfl
    have a1 : cs.drop (0 + 1) = [] := List.drop_eq_nil_of_le (by omega)
    have a0 := cut_at 0 1 a1
    rw [List.drop_zero] at a0
    refine ⟨v, l, ?_, ⟨h1, h2⟩⟩
    rw [a0]
    exact congr (congrArg _ e0) rfl |>.trans (by simp)
end
/-- An api.Repo as an argument. -/
def ArgRepo (w : World) (v : Value) (fs : List Fl) : Prop := ∃ u : Value, v = .agg #[u] ∧ IsF w u fs
set_option maxRecDepth 100000 in
theorem open_repo {H : Type} {enc : TypeId × Value → H} {w : World} {v : Value} {d : DataW H} {p : List MemPlace} {r : Reach} {b0 : Nat}
    (hv : Value.okWide Tryz.prog w r b0 24 v) (h : DataW.Trod enc Tryz.prog w 0 (fun _ => true) true 24 v d p) (hL : Light Tryz.prog 24 d) : ∃ fs, ArgRepo w v fs := by
  obtain ⟨cs, rfl⟩ := agg_arg Tryz.underlying24 hv
  obtain ⟨u, l, e, k⟩ := arg_of opens_repo h hL
  have e : cs.toList = [u] := by simpa [Value.cells] using e
  exact ⟨l, u, by rw [← Array.toArray_toList (xs := cs), e], k⟩
end Go.Proofs.YtpadfabjihaapaaGreatDoor
