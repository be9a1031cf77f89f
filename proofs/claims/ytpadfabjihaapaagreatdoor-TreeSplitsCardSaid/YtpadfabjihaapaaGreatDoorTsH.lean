/- The library's Sort and Compact at a row of strings of the call's own. -/
import Derived.Test.YtpadfabjihaapaaGreatDoorReg
import Derived.Test.YtpadfabjihaapaaGreatDoorShelf
import Derived.Sort.OwnSorted
import Derived.Lib.RowBridge
import Derived.Test.YtpadfabjihaapaaGreatDoorHpI
import Derived.Test.YtpadfabjihaapaaGreatDoorRegG
import Derived.Test.YtpadfabjihaapaaGreatDoorRegC
import Derived.Test.YtpadfabjihaapaaGreatDoorRegP
import Derived.Deep.DeepCutAuto
import Derived.Maps.OwnSet
import Derived.Deep.CutBlock
import Derived.Test.YtpadfabjihaapaaGreatDoorRfJ
namespace Go.Proofs.YtpadfabjihaapaaGreatDoor
open Go.RowKit
set_option linter.unusedVariables false
set_option linter.unusedSimpArgs false

theorem sortRow (w : World) (base : Nat) (v : Value) (ss : List (List UInt8)) (h : w.ownsRow base 9 1 v ss.length (ss.map encStr)) (hl : ss.length ≤ 1000000) :
    Calls Tryz.prog 52 #[v] w fun e w' => e = .returned (.tuple #[]) ∧ w'.ownsRow base 9 1 v ss.length ((ss.mergeSort fun x y => decide (x ≤ y)).map encStr) ∧ w.grownBy w' v.ownBlock := by
  have h0 := h
  rcases h.2 with ⟨rfl, hn⟩ | ⟨g, cap, cur, rfl, hb, hg, hn, hcap, hs, ht⟩
  · obtain rfl : ss = [] := List.eq_nil_of_length_eq_zero hn
    refine Calls.mono (Tryz.slices_Sort_string_none none 0 w) ?_
    rintro e w' ⟨rfl, rfl⟩
    exact ⟨rfl, by simpa using h0, World.grownBy.refl _ _⟩
  · refine Calls.mono (Tryz.slices_Sort_string g 0 cap ss w (holds_of_block hg (by simpa using ht)) (block_lt hg) (by omega)) ?_
    rintro e w' ⟨rfl, n, os, rfl⟩
    exact ⟨rfl, ownsRow_sorted (by simp) hb hg hn hcap hs, grownBy_sorted _⟩
end Go.Proofs.YtpadfabjihaapaaGreatDoor

namespace Go.Proofs.YtpadfabjihaapaaGreatDoor
open Go.RowKit
set_option linter.unusedVariables false
set_option linter.unusedSimpArgs false

set_option maxHeartbeats 4000000 in
set_option maxRecDepth 100000 in
theorem slCut (w : World) (s : ByteArray) (hs : s.size ≤ 140737488355328) :
    Calls Tryz.prog 68 #[.string s, .string ⟨#[47]⟩] w fun e w' => e = .returned (cutV s) ∧ Ext w w' := by
  have hge := Lib.indexByte_ge s.data.toList 47
  have hc : (Lib.indexByte s.data.toList 47 = -1 ∧ cutV s = .tuple #[.string s, .string ⟨#[]⟩, .bool false]) ∨ (∃ k : Nat, Lib.indexByte s.data.toList 47 = (k : Int) ∧ k < s.size ∧ cutV s = .tuple #[.string (s.extract 0 k), .string (s.extract (k + 1) s.size), .bool true]) := by
    by_cases hn : Lib.indexByte s.data.toList 47 = -1
    · left
      refine ⟨hn, ?_⟩
      unfold cutV
      rw [if_pos hn]
    · right
      obtain ⟨o, ho⟩ : ∃ o : Nat, Lib.indexByte s.data.toList 47 = (o : Int) := ⟨(Lib.indexByte s.data.toList 47).toNat, by omega⟩
      obtain ⟨h1, h2⟩ := Lib.indexByte_some ho
      refine ⟨o, ho, ?_, ?_⟩
      · have := (List.getElem?_eq_some_iff.1 h1).1
        rw [Array.length_toList] at this
        exact this
      · unfold cutV
        rw [if_neg hn, ho]
        rfl
  have h145 := fun w => Tryz.stringslite_Index_one s 47 w
  rcases hc with ⟨hi, hv⟩ | ⟨k, hi, hk, hv⟩
  · rw [hv]
    go_enter Tryz.func68, Tryz.ntmps68
    go_wp2_with fail
    refine Calls.mono (h145 _) ?_
    rintro e w1 ⟨rfl, rfl⟩
    rw [hi]
    go_wp2_with fail
    go_ret3
    exact ⟨rfl, Ext.refl _⟩
  · rw [hv]
    have i0 : (0 : Int) ≤ (k : Int) := Int.natCast_nonneg _
    have i1 : (k : Int) ≤ (s.size : Int) := by omega
    have i2 : (k : Int) + 1 ≤ (s.size : Int) := by omega
    have i3 : (0 : Int) ≤ (k : Int) + 1 := by omega
    have i4 : IntKind.i64.wrap ((k : Int) + 1) = (k : Int) + 1 := wrap64_small (by omega) (by omega)
    go_enter Tryz.func68, Tryz.ntmps68
    go_wp2_with fail
    refine Calls.mono (h145 _) ?_
    rintro e w1 ⟨rfl, rfl⟩
    rw [hi]
    clear hi hv
    go_upto_region 3 with fail
    refine wp_region_S (fun v => Ext w1 v) (by kernel_rfl) (fun w' h => h) fun wd hqd xd hHeld => ?_
    refine wpAnyH_take (i := 0) (v := ?vcut0) rfl (by kernel_rfl) (by kernel_rfl) (by kernel_rfl) (fun _ _ _ h => h) (Or.inl ⟨by rfl, ?hycut0⟩) hHeld ?_
    case hycut0 => (intro w hSw; go_simp; try with_reducible rfl)
    simp only [Act.put, List.setIfInBounds_toArray, List.set_cons_zero, List.set_cons_succ, List.getElem_toArray, List.getElem_cons_zero, List.getElem_cons_succ]
    refine wpAnyH_take (i := 1) (v := ?vcut1) rfl (by kernel_rfl) (by kernel_rfl) (by kernel_rfl) (fun _ _ _ h => h) (Or.inl ⟨by rfl, ?hycut1⟩) hHeld ?_
    case hycut1 => (intro w hSw; go_simp; try with_reducible rfl)
    simp only [Act.put, List.setIfInBounds_toArray, List.set_cons_zero, List.set_cons_succ, List.getElem_toArray, List.getElem_cons_zero, List.getElem_cons_succ]
    refine wpAnyH_take (i := 2) (v := ?vcut2) rfl (by kernel_rfl) (by kernel_rfl) (by kernel_rfl) (fun _ _ _ h => h) (Or.inl ⟨by rfl, ?hycut2⟩) hHeld ?_
    case hycut2 => (intro w hSw; go_simp; try with_reducible rfl)
    simp only [Act.put, List.setIfInBounds_toArray, List.set_cons_zero, List.set_cons_succ, List.getElem_toArray, List.getElem_cons_zero, List.getElem_cons_succ]
    refine wpAnyH_take (i := 3) (v := ?vcut3) rfl (by kernel_rfl) (by kernel_rfl) (by kernel_rfl) (fun _ _ _ h => h) (Or.inl ⟨by rfl, ?hycut3⟩) hHeld ?_
    case hycut3 => (intro w hSw; go_simp; try with_reducible rfl)
    simp only [Act.put, List.setIfInBounds_toArray, List.set_cons_zero, List.set_cons_succ, List.getElem_toArray, List.getElem_cons_zero, List.getElem_cons_succ]
    refine wpAnyH_take (i := 4) (v := ?vcut4) rfl (by kernel_rfl) (by kernel_rfl) (by kernel_rfl) (fun _ _ _ h => h) (Or.inl ⟨by rfl, ?hycut4⟩) hHeld ?_
    case hycut4 => (intro w hSw; go_simp; try with_reducible rfl)
    simp only [Act.put, List.setIfInBounds_toArray, List.set_cons_zero, List.set_cons_succ, List.getElem_toArray, List.getElem_cons_zero, List.getElem_cons_succ]
    refine wpAnyH_take (i := 5) (v := ?vcut5) rfl (by kernel_rfl) (by kernel_rfl) (by kernel_rfl) (fun _ _ _ h => h) (Or.inl ⟨by rfl, ?hycut5⟩) hHeld ?_
    case hycut5 => (intro w hSw; go_simp; try with_reducible rfl)
    simp only [Act.put, List.setIfInBounds_toArray, List.set_cons_zero, List.set_cons_succ, List.getElem_toArray, List.getElem_cons_zero, List.getElem_cons_succ]
    refine wpAnyH_take (i := 6) (v := ?vcut6) rfl (by kernel_rfl) (by kernel_rfl) (by kernel_rfl) (fun _ _ _ h => h) (Or.inl ⟨by rfl, ?hycut6⟩) hHeld ?_
    case hycut6 => (intro w hSw; go_simp; try with_reducible rfl)
    simp only [Act.put, List.setIfInBounds_toArray, List.set_cons_zero, List.set_cons_succ, List.getElem_toArray, List.getElem_cons_zero, List.getElem_cons_succ]
    refine wpAnyH_take (i := 7) (v := ?vcut7) rfl (by kernel_rfl) (by kernel_rfl) (by kernel_rfl) (fun _ _ _ h => h) (Or.inl ⟨by rfl, ?hycut7⟩) hHeld ?_
    case hycut7 => (intro w hSw; go_simp; try with_reducible rfl)
    simp only [Act.put, List.setIfInBounds_toArray, List.set_cons_zero, List.set_cons_succ, List.getElem_toArray, List.getElem_cons_zero, List.getElem_cons_succ]
    refine wpAnyH_take (i := 8) (v := ?vcut8) rfl (by kernel_rfl) (by kernel_rfl) (by kernel_rfl) (fun _ _ _ h => h) (Or.inl ⟨by rfl, ?hycut8⟩) hHeld ?_
    case hycut8 => (intro w hSw; go_simp; try with_reducible rfl)
    simp only [Act.put, List.setIfInBounds_toArray, List.set_cons_zero, List.set_cons_succ, List.getElem_toArray, List.getElem_cons_zero, List.getElem_cons_succ]
    refine wpAnyH_take (i := 9) (v := ?vcut9) rfl (by kernel_rfl) (by kernel_rfl) (by kernel_rfl) (fun _ _ _ h => h) (Or.inl ⟨by rfl, ?hycut9⟩) hHeld ?_
    case hycut9 => (intro w hSw; go_simp; try with_reducible rfl)
    simp only [Act.put, List.setIfInBounds_toArray, List.set_cons_zero, List.set_cons_succ, List.getElem_toArray, List.getElem_cons_zero, List.getElem_cons_succ]
    refine wpAnyH_take (i := 10) (v := ?vcut10) rfl (by kernel_rfl) (by kernel_rfl) (by kernel_rfl) (fun _ _ _ h => h) (Or.inl ⟨by rfl, ?hycut10⟩) hHeld ?_
    case hycut10 => (intro w hSw; go_simp; try with_reducible rfl)
    simp only [Act.put, List.setIfInBounds_toArray, List.set_cons_zero, List.set_cons_succ, List.getElem_toArray, List.getElem_cons_zero, List.getElem_cons_succ]
    refine wpAnyH_take (i := 11) (v := ?vcut11) rfl (by kernel_rfl) (by kernel_rfl) (by kernel_rfl) (fun _ _ _ h => h) (Or.inl ⟨by rfl, ?hycut11⟩) hHeld ?_
    case hycut11 => (intro w hSw; go_simp; try with_reducible rfl)
    simp only [Act.put, List.setIfInBounds_toArray, List.set_cons_zero, List.set_cons_succ, List.getElem_toArray, List.getElem_cons_zero, List.getElem_cons_succ]
    refine wpAnyH_done (by kernel_rfl) ?_ _
    refine NoPanic.normal ?_
    go_wp2_with fail
    go_ret3
    exact ⟨rfl, xd⟩
set_option maxHeartbeats 4000000 in
set_option maxRecDepth 100000 in
theorem strCut (w : World) (s : ByteArray) (hs : s.size ≤ 140737488355328) :
    Calls Tryz.prog 50 #[.string s, .string ⟨#[47]⟩] w fun e w' => e = .returned (cutV s) ∧ Ext w w' := by
  have hc : ∃ a b c, cutV s = .tuple #[.string a, .string b, .bool c] := by
    unfold cutV
    split
    · exact ⟨_, _, _, rfl⟩
    · exact ⟨_, _, _, rfl⟩
  obtain ⟨a, b, c, hv⟩ := hc
  have h1 := slCut w s hs
  rw [hv] at h1 ⊢
  clear hv
  go_enter Tryz.func50, Tryz.ntmps50
  go_wp2_with fail
  refine Calls.mono h1 ?_
  rintro e w1 ⟨rfl, x1⟩
  go_wp2_with fail
  go_ret3
  exact ⟨rfl, x1⟩

/-- A row of strings. -/
def stC (s : ByteArray) : List Value := [.string s]
structure IsSs (w : World) (v : Value) (l : List ByteArray) : Prop where
  sl : IsSl w v 1 l.length (l.flatMap stC)
theorem IsSs.ext {w w' : World} {v : Value} {l : List ByteArray} (h : IsSs w v l) (k : Ext w w') : IsSs w' v l := ⟨h.sl.ext k⟩
theorem ss_at {w : World} {ao : Option Addr} {n cap : Nat} {es : List ByteArray} (h : IsSl w (.slice ao n cap) 1 es.length (es.flatMap stC)) (i : Nat) (hi : i < es.length) :
    ∃ b off, ao = some ⟨b, off, none⟩ ∧ w.cell? ⟨b, off + i, none⟩ = some (.string es[i]) := by
  obtain ⟨b, off, e, h⟩ := rows_at (k := 1) (by omega) h (fun x hx => rfl) i hi
  refine ⟨b, off, e, ?_⟩
  have := h 0 _ rfl
  simpa using this

set_option maxHeartbeats 4000000 in
set_option maxRecDepth 100000 in
theorem indexStr (w : World) (v : Value) (l : List ByteArray) (h : IsSs w v l) (x : ByteArray) :
    Calls Tryz.prog 69 #[v, .string x] w fun e w' => ∃ r, e = .returned (.int .i64 r) ∧ FoundA l (fun y => x.toList == y.toList) r ∧ Ext w w' := by
  obtain ⟨ao, cap, rfl⟩ := sl_len h.sl
  obtain ⟨_, b1, m1⟩ := sl_cap h.sl
  have H := Lib.hid h
  clear h
  go_enter Tryz.func69, Tryz.ntmps69
  go_wp2
  go_loopg [8] l.length (fun g s8 wr => ∃ k : Nat, k ≤ l.length ∧ l.length - k ≤ g ∧ s8 = .int .i64 k ∧ (∀ j (hj : j < l.length), j < k → (x.toList == l[j].toList) = false) ∧ Ext w wr)
  case atStart => exact ⟨0, Nat.zero_le _, by omega, rfl, fun j _ hj => absurd hj (Nat.not_lt_zero _), Ext.refl _⟩
  case round =>
    obtain ⟨k, hk, hg, rfl, hall, xr⟩ := hrel
    have HALL := Lib.hid hall
    clear hall
    by_cases hlt : k < l.length
    · obtain ⟨pb, o, rfl, e0⟩ := ss_at H.out.sl k hlt
      have e0 := xr.cell e0
      generalize hx : l[k] = y at *
      have HX := Lib.hid hx
      clear hx
      cases hp : (x.toList == y.toList)
      · have HP := Lib.hid hp
        go_wp2_with fail
        clear hp
        go_roundg (l.length - (k + 1))
        case measure => omega
        case rel =>
          refine ⟨k + 1, by omega, by omega, by go_num, fun j hj hj1 => ?_, xr⟩
          by_cases e : j = k
          · subst e; rw [HX.out]; exact HP.out
          · exact HALL.out j hj (by omega)
      · have HP := Lib.hid hp
        go_wp2_with fail
        go_ret
        exact ⟨_, rfl, .inl ⟨k, hlt, rfl, by rw [HX.out]; exact HP.out, fun j hj hj1 => HALL.out j hj hj1⟩, xr⟩
    · have : k = l.length := by omega
      subst this
      go_wp2
      go_ret
      exact ⟨_, rfl, .inr ⟨rfl, fun j hj => HALL.out j hj hj⟩, xr⟩
def hasS (l : List ByteArray) (x : ByteArray) : Bool := l.any fun y => x.toList == y.toList
theorem hasS_iff {l : List ByteArray} {x : ByteArray} : hasS l x = true ↔ x ∈ l := by
  unfold hasS
  rw [List.any_eq_true]
  constructor
  · rintro ⟨y, hy, e⟩
    rw [beq_nm.1 e]
    exact hy
  · intro h
    exact ⟨x, h, beq_nm.2 rfl⟩
set_option maxHeartbeats 4000000 in
set_option maxRecDepth 100000 in
theorem containsStr (w : World) (v : Value) (l : List ByteArray) (h : IsSs w v l) (x : ByteArray) :
    Calls Tryz.prog 51 #[v, .string x] w fun e w' => e = .returned (.bool (hasS l x)) ∧ Ext w w' := by
  obtain ⟨R, hR⟩ : ∃ R, hasS l x = R := ⟨_, rfl⟩
  rw [hR]
  have HR := Lib.hid hR
  clear hR
  go_enter Tryz.func51, Tryz.ntmps51
  go_wp2_with fail
  refine Calls.mono (indexStr _ v l h x) ?_
  rintro e w1 ⟨r, rfl, hf, x1⟩
  rcases hf with ⟨i, hi, rfl, hp, _⟩ | ⟨rfl, hn⟩
  · have hRt : R = true := by
      rw [← HR.out, hasS_iff, beq_nm.1 hp]
      exact List.getElem_mem hi
    have hi0 : (0 : Int) ≤ (i : Int) := Int.natCast_nonneg _
    subst hRt
    clear hp
    go_wp2
    go_ret
    exact ⟨rfl, x1⟩
  · have hRf : R = false := by
      rw [← HR.out, ← Bool.not_eq_true, hasS_iff]
      intro hx
      obtain ⟨j, hj, rfl⟩ := List.getElem_of_mem hx
      have := hn j hj
      simp at this
    subst hRf
    clear hn
    go_wp2
    go_ret
    exact ⟨rfl, x1⟩
end Go.Proofs.YtpadfabjihaapaaGreatDoor

namespace Go.Proofs.YtpadfabjihaapaaGreatDoor
open Go.RowKit
set_option linter.unusedVariables false
set_option linter.unusedSimpArgs false

/-- An object under an Id. -/
structure HdV where
  id : List UInt8
  o : ObjL
  vb : Value
  ve : Value
  vp : Value
def hdV (e : HdV) : HdC := ⟨e.id, objC e.vb e.ve e.vp e.o⟩
/-- Bytes in a block of bytes. -/
def RowT (w : World) (v : Value) (l : List UInt8) : Prop := IsB w v l ∧ ∀ g, v.ownBlock = some g → ∃ c f, w.heap[g]? = some (Obj.cells c 5 f)
theorem RowT.keep {w w' : World} {v : Value} {l : List UInt8} (h : RowT w v l) (hk : ∀ (g : Nat) (c : Array Value) (f : Nat × Nat), w.heap[g]? = some (Obj.cells c 5 f) → w'.heap[g]? = some (Obj.cells c 5 f)) : RowT w' v l := by
  obtain ⟨⟨h1, ao, cap, e, h2, h3, h4, h5⟩, hb⟩ := h
  refine ⟨⟨h1, ao, cap, e, h2, h3, h4, fun i hi => ?_⟩, fun g hg => ?_⟩
  · obtain ⟨b, off, e1, e2⟩ := h5 i hi
    obtain ⟨c, f, hh⟩ := hb b (by rw [e, e1]; rfl)
    refine ⟨b, off, e1, ?_⟩
    rw [← e2, block_cell hh, block_cell (hk _ _ _ hh)]
  · obtain ⟨c, f, hh⟩ := hb g hg
    exact ⟨c, f, hk _ _ _ hh⟩
theorem RowT.nil (w : World) : RowT w nilS [] := ⟨isB_nil w, fun g hg => by simp [nilS, Value.ownBlock] at hg⟩
/-- Its slices lie in rows. -/
structure ObjW (w : World) (e : HdV) : Prop where
  rb : RowT w e.vb e.o.bytes
  re : w.ownsRow 0 80 34 e.ve e.o.ents.length (e.o.ents.flatMap entC)
  rp : e.vp = nilS ∧ e.o.pars = []
  ok : ObjOk e.o
  id : e.id.length = 32
theorem ObjW.obj {w : World} {e : HdV} (h : ObjW w e) : IsObj w (hdV e).obj.toArray e.vb e.ve e.vp e.o :=
  ⟨rfl, h.ok, h.rb.1, IsSl.of_owns h.re, by rw [h.rp.1, h.rp.2]; exact isSl_nil w 32⟩
theorem ObjW.hd {w : World} {e : HdV} (h : ObjW w e) : HdOk (hdV e) := by
  have := obj_hdOk h.obj e.id h.id
  simpa [hdV] using this
theorem ObjW.keep {w w' : World} {e : HdV} (h : ObjW w e) (hk : ∀ (g : Nat) (c : Array Value) (t : TypeId) (f : Nat × Nat), w.heap[g]? = some (Obj.cells c t f) → t = 5 ∨ t = 80 → w'.heap[g]? = some (Obj.cells c t f)) : ObjW w' e :=
  ⟨h.rb.keep fun g c f hg => hk g c _ f hg (.inl rfl), own_keep h.re fun g c hg => hk g c _ _ hg (.inr rfl), h.rp, h.ok, h.id⟩
theorem ObjW.ext {w w' : World} {e : HdV} (h : ObjW w e) (x : Ext w w') : ObjW w' e := h.keep fun g c t f hg _ => x.keeps hg
set_option maxHeartbeats 4000000 in
set_option maxRecDepth 100000 in
theorem putOld (W0 w : World) (QA : Array Value) (vb ve vp : Value) (o : ObjL) (hQA : (objC vb ve vp o).toArray = QA) (ho : ObjW w ⟨idL o, o, vb, ve, vp⟩) (hT : Tabs w) (hc : checkB o = true) (S base : Nat) (v : Value) (tw : Bool) (hs : List HdC) (hok : ∀ e ∈ hs, HdOk e)
    (hl : hs.length ≤ 1000000) (own : w.ownsRow base 47 70 v hs.length (hs.flatMap hdC)) (bS : spl w S v false tw) (X : Ext W0 w) (hbs : base ≤ w.heap.size) (hS : W0.heap.size ≤ S)
    (i : Nat) (hi : i < hs.length) (d : HdV) (hd : hs[i] = hdV d) (hob : ObjW w d) (hid : d.id = idL o) (hfi : ∀ j (hj : j < hs.length), j < i → hs[j].id ≠ idL o) :
    Calls Tryz.prog 53 #[Value.pointer (some ⟨S, 0, none⟩), Value.agg QA] w fun e w' => e = .returned (.agg ((idL o).map bc).toArray) ∧ spl w' S v false (tw || !sameB d.o o) ∧ Ext W0 w' ∧
      (∀ g x, w.heap[g]? = some x → g ≠ S → w'.heap[g]? = some x) := by
  have h : IsObj w QA vb ve vp o := hQA ▸ ho.obj
  obtain ⟨sb, hsb⟩ : ∃ sb, sameB d.o o = sb := ⟨_, rfl⟩
  rw [hsb]
  have hfound : ∀ r, FoundA hs (fun x => decide (x.id = idL o)) r → r = (i : Int) := by
    rintro r (⟨k, hk, rfl, hp, hb⟩ | ⟨rfl, hn⟩)
    · have hp := of_decide_eq_true hp
      rcases Nat.lt_trichotomy k i with q | q | q
      · exact absurd hp (hfi k hk q)
      · rw [q]
      · have := of_decide_eq_false (hb i hi q)
        rw [hd] at this
        exact absurd hid this
    · have := of_decide_eq_false (hn i hi)
      rw [hd] at this
      exact absurd hid this
  have HSB := Lib.hid hsb
  have HQA := Lib.hid hQA
  have HO := Lib.hid ho
  have HOB := Lib.hid hob
  have HF := Lib.hid hfound
  have HD := Lib.hid hd
  clear hsb hQA ho hob hfi hid hd hfound
  have hID : (idL o).length = 32 := idL_len o
  have hok2 := obj_hdOk h (idL o) hID
  have hinfo := h.info
  have hsz := h.size
  have hvw := Lib.hid h
  have HT := Lib.hid hT
  have b0 := blk_old (o := .cells (z32.map bc).toArray 31) (heap_alloc_new w (.cells QA 45))
  have bR := blk_new (w := w.alloc (.cells QA 45)) (b := w.heap.size + 1) (o := .cells (z32.map bc).toArray 31) (by simp)
  have x0 : Ext w ((w.alloc (.cells QA 45)).alloc (.cells (z32.map bc).toArray 31)) := ((Ext.refl w).alloc _).alloc _
  have hSl := block_lt bS
  go_enter Tryz.func53, Tryz.ntmps53
  go_upto_region 1 with fail
  generalize hG : w.heap.size = G at *
  refine wp_forgetH (fun W => Ext w W ∧ W.heap[G]? = some (.cells QA 45 (0, 0)) ∧ W.heap[G + 1]? = some (.cells (z32.map bc).toArray 31 (0, 0))) ⟨x0, b0, bR⟩ ?_
  clear x0 b0 bR
  rintro w1 ⟨x0, b0, bR⟩
  have hG1 : G + 2 ≤ w1.heap.size := block_lt bR
  have HOK2 := Lib.hid hok2
  go_wp2_with ((with_reducible refine at_load 45 (.tmp 3) ?_); refine wpl_load (by rfl) 45 (.tmp 3) rfl G (by rfl) 45 QA (0, 0) _ b0 Tryz.underlying45 rfl hinfo ?_)
  refine Calls.mono (objId _ QA vb ve vp o (hvw.out.ext x0) (HT.out.ext x0)) ?_
  rintro e w2 ⟨rfl, x2⟩
  unfold chkE
  rw [if_pos hc]
  have x := x0.trans x2
  generalize hI : idL o = I at *
  go_upto_region 2 with ((with_reducible refine at_store 31 (.tmp 5) (.tmp 11) ?_); refine wpl_store (by rfl) 31 (.tmp 5) (.tmp 11) rfl _ (I.map bc).toArray (by rfl) (by rfl) 31 _ (heap_alloc_new _ _) (id_size hID) (id_same (a := z32) rfl hID) (id_one _) ?_; rw [World.setRow_alloc_new])
  have bI := heap_alloc_new w2 (.cells (I.map bc).toArray 31)
  have x3 : Ext w2 (w2.alloc (.cells (I.map bc).toArray 31)) := (Ext.refl _).alloc _
  have x := x.trans x3
  have b0 := x3.keeps (x2.keeps b0)
  have bR := x3.keeps (x2.keeps bR)
  generalize hGI : w2.heap.size = GI at *
  have hGI2 : G + 2 ≤ GI := by rw [← hGI]; have := x2.size; omega
  generalize w2.alloc (.cells (I.map bc).toArray 31) = w3 at *
  have hx : Ext w w3 := x
  have own3 := ownsRow_ext own x
  have bS3 := x.keeps bS
  have kS := block_allH bS3
  have fS := fun i => block_free bS3 i
  have HB := Lib.hid bR
  clear bR
  go_upto_region 3 with fail
  have bS4 := block_setCell bS3 (i := 1) (.bool false)
  have n1 : v.ownBlock ≠ some S := own_neH own bS (by decide)
  have own4 := ownsRow_grown own3 (grown_setCell w3 S 1 (.bool false)) n1
  have g4 : w3.grownBy (w3.setCell ⟨S, 1, none⟩ (.bool false)) (some S) := grown_setCell _ _ _ _
  have b04 := grown_other g4 b0 (by omega)
  have bR4 := grown_other g4 HB.out (by omega)
  have bI4 := grown_other g4 bI (by omega)
  generalize w3.setCell ⟨S, 1, none⟩ (.bool false) = w4 at *
  clear kS fS b0 bI HB
  have hk4 : ∀ (g : Nat) (c : Array Value) (t : TypeId) (f : Nat × Nat), w.heap[g]? = some (Obj.cells c t f) → t = 5 ∨ t = 80 → w4.heap[g]? = some (Obj.cells c t f) := fun g c t f hg ht => grown_other g4 (hx.keeps hg) (fun e => by subst e; rw [bS] at hg; simp only [Option.some.injEq, Obj.cells.injEq] at hg; rcases ht with q | q <;> rw [← hg.2.1] at q <;> revert q <;> decide)
  have HB4 := Lib.hid (HOB.out.keep hk4)
  have HO4 := Lib.hid (HO.out.keep hk4)
  have HBS := Lib.hid bS4
  have HB0 := Lib.hid b04
  have HBR := Lib.hid bR4
  have HBI := Lib.hid bI4
  have HOW := Lib.hid own4
  obtain ⟨av, cv, rfl⟩ := ownSh own4
  have kS := block_allH bS4
  clear hk4 bS3 b04 bR4 bI4 own3 own4 bS4
  go_wp2_with fail
  refine Calls.mono (indexPut _ _ hs (isH_own HOW.out hok) GI I hID (range_blk HBI.out)) ?_
  rintro e w5 ⟨r, rfl, hf, x5⟩
  obtain rfl : r = (i : Int) := HF.out r hf
  clear hf
  have own5 := ownsRow_ext HOW.out x5
  have bS5 := x5.keeps HBS.out
  have b05 := x5.keeps HB0.out
  have bR5 := x5.keeps HBR.out
  have bI5 := x5.keeps HBI.out
  have HX5 := Lib.hid (HB4.out.ext x5)
  have hQ5 : IsObj w5 QA vb ve vp o := HQA.out ▸ (HO4.out.ext x5).obj
  have HQ5 := Lib.hid hQ5
  obtain ⟨pb, of, rfl, hra⟩ := hd_at (IsSl.of_owns own5) hok i hi
  have hro := hd_obj (hok _ (List.getElem_mem hi)) hra
  rw [HD.out] at hro
  obtain ⟨_, c1, c2⟩ := sl_cap (IsSl.of_owns own5)
  have HRO := Lib.hid hro
  have HOW5 := Lib.hid own5
  clear kS HOW HBS HB0 HBR HBI hQ5 hra hro own5
  have bS5 : w5.heap[S]? = some (.cells #[.slice (some ⟨pb, of, none⟩) hs.length cv, .bool false, .bool tw] 71 (0, 0)) := bS5
  have i0 : (0 : Int) ≤ (i : Int) := Int.natCast_nonneg _
  have i1 : (i : Int) < (hs.length : Int) := by omega
  go_upto_region 7 with fail
  have hio : (Tryz.prog.info? 45).map (·.size) = some (hdV d).obj.length := by have := HX5.out.obj.info; simpa using this
  have hiq : (Tryz.prog.info? 45).map (·.size) = some QA.toList.length := by rw [Array.length_toList]; exact hinfo
  have HS5 := Lib.hid bS5
  have HB05 := Lib.hid b05
  have HBR5 := Lib.hid bR5
  have HBI5 := Lib.hid bI5
  have KS := fun v (h : Ext w5 v) => block_allH (h.keeps bS5)
  clear bS5 b05 bR5 bI5
  cases tw with
  | true =>
    refine wp_region_G 21 (fun v => Ext w5 v) (by kernel_rfl) fun wd hqd hHeld => ?_
    refine G_pure (i := 0) (u := ?vpa0) rfl (by kernel_rfl) (by kernel_rfl) (by kernel_rfl) (fun _ _ _ h => h) (by decide) (Or.inl ⟨by rfl, ?hypa0⟩) hHeld ?_
    case hypa0 => (intro w hSw; go_simp; try with_reducible rfl)
    simp only [Act.put, List.setIfInBounds_toArray, List.set_cons_zero, List.set_cons_succ, List.getElem_toArray, List.getElem_cons_zero, List.getElem_cons_succ]
    refine G_pure (i := 1) (u := ?vpa1) rfl (by kernel_rfl) (by kernel_rfl) (by kernel_rfl) (fun _ _ _ h => h) (by decide) (Or.inl ⟨by rfl, ?hypa1⟩) hHeld ?_
    case hypa1 => (intro w hSw; go_simp; try with_reducible rfl)
    simp only [Act.put, List.setIfInBounds_toArray, List.set_cons_zero, List.set_cons_succ, List.getElem_toArray, List.getElem_cons_zero, List.getElem_cons_succ]
    refine G_pure (i := 2) (u := ?vpa2) rfl (by kernel_rfl) (by kernel_rfl) (by kernel_rfl) (fun _ _ _ h => h) (by decide) (Or.inl ⟨by rfl, ?hypa2⟩) hHeld ?_
    case hypa2 => (intro w hSw; go_simp; try with_reducible rfl)
    simp only [Act.put, List.setIfInBounds_toArray, List.set_cons_zero, List.set_cons_succ, List.getElem_toArray, List.getElem_cons_zero, List.getElem_cons_succ]
    refine G_pure (i := 3) (u := ?vpa3) rfl (by kernel_rfl) (by kernel_rfl) (by kernel_rfl) (fun _ _ _ h => h) (by decide) (Or.inl ⟨by rfl, ?hypa3⟩) hHeld ?_
    case hypa3 => (intro w hSw; go_simp; try with_reducible rfl)
    simp only [Act.put, List.setIfInBounds_toArray, List.set_cons_zero, List.set_cons_succ, List.getElem_toArray, List.getElem_cons_zero, List.getElem_cons_succ]
    refine G_take (i := 4) (u := ?vpa4) rfl (by kernel_rfl) (by kernel_rfl) (by kernel_rfl) (fun _ _ _ h => h) rfl (by kernel_rfl) (by decide) (by rfl) (Or.inl ⟨by rfl, ?hypa4⟩) hHeld ?_
    case hypa4 => (intro w hSw; have kk := KS _ hSw; go_simp; try with_reducible rfl)
    simp only [Act.put, List.setIfInBounds_toArray, List.set_cons_zero, List.set_cons_succ, List.getElem_toArray, List.getElem_cons_zero, List.getElem_cons_succ]
    refine G_pure (i := 5) (u := ?vpa5) rfl (by kernel_rfl) (by kernel_rfl) (by kernel_rfl) (fun _ _ _ h => h) (by decide) (Or.inl ⟨by rfl, ?hypa5⟩) hHeld ?_
    case hypa5 => (intro w hSw; go_simp; try with_reducible rfl)
    simp only [Act.put, List.setIfInBounds_toArray, List.set_cons_zero, List.set_cons_succ, List.getElem_toArray, List.getElem_cons_zero, List.getElem_cons_succ]
    refine G_pure (i := 6) (u := undef) rfl (by kernel_rfl) (by kernel_rfl) (by kernel_rfl) (fun _ _ _ h => h) (by decide) (Or.inr ⟨by rfl, rfl⟩) hHeld ?_
    simp only [Act.put, List.setIfInBounds_toArray, List.set_cons_zero, List.set_cons_succ, List.getElem_toArray, List.getElem_cons_zero, List.getElem_cons_succ]
    refine G_pure (i := 7) (u := undef) rfl (by kernel_rfl) (by kernel_rfl) (by kernel_rfl) (fun _ _ _ h => h) (by decide) (Or.inr ⟨by rfl, rfl⟩) hHeld ?_
    simp only [Act.put, List.setIfInBounds_toArray, List.set_cons_zero, List.set_cons_succ, List.getElem_toArray, List.getElem_cons_zero, List.getElem_cons_succ]
    refine G_pure (i := 8) (u := undef) rfl (by kernel_rfl) (by kernel_rfl) (by kernel_rfl) (fun _ _ _ h => h) (by decide) (Or.inr ⟨by rfl, rfl⟩) hHeld ?_
    simp only [Act.put, List.setIfInBounds_toArray, List.set_cons_zero, List.set_cons_succ, List.getElem_toArray, List.getElem_cons_zero, List.getElem_cons_succ]
    refine G_pure (i := 9) (u := undef) rfl (by kernel_rfl) (by kernel_rfl) (by kernel_rfl) (fun _ _ _ h => h) (by decide) (Or.inr ⟨by rfl, rfl⟩) hHeld ?_
    simp only [Act.put, List.setIfInBounds_toArray, List.set_cons_zero, List.set_cons_succ, List.getElem_toArray, List.getElem_cons_zero, List.getElem_cons_succ]
    refine G_take (i := 10) (u := undef) rfl (by kernel_rfl) (by kernel_rfl) (by kernel_rfl) (fun _ _ _ h => h) rfl (by kernel_rfl) (by decide) (by rfl) (Or.inr ⟨by rfl, rfl⟩) hHeld ?_
    simp only [Act.put, List.setIfInBounds_toArray, List.set_cons_zero, List.set_cons_succ, List.getElem_toArray, List.getElem_cons_zero, List.getElem_cons_succ]
    refine G_pure (i := 11) (u := undef) rfl (by kernel_rfl) (by kernel_rfl) (by kernel_rfl) (fun _ _ _ h => h) (by decide) (Or.inr ⟨by rfl, rfl⟩) hHeld ?_
    simp only [Act.put, List.setIfInBounds_toArray, List.set_cons_zero, List.set_cons_succ, List.getElem_toArray, List.getElem_cons_zero, List.getElem_cons_succ]
    refine G_pure (i := 12) (u := undef) rfl (by kernel_rfl) (by kernel_rfl) (by kernel_rfl) (fun _ _ _ h => h) (by decide) (Or.inr ⟨by rfl, rfl⟩) hHeld ?_
    simp only [Act.put, List.setIfInBounds_toArray, List.set_cons_zero, List.set_cons_succ, List.getElem_toArray, List.getElem_cons_zero, List.getElem_cons_succ]
    refine G_pure (i := 13) (u := undef) rfl (by kernel_rfl) (by kernel_rfl) (by kernel_rfl) (fun _ _ _ h => h) (by decide) (Or.inr ⟨by rfl, rfl⟩) hHeld ?_
    simp only [Act.put, List.setIfInBounds_toArray, List.set_cons_zero, List.set_cons_succ, List.getElem_toArray, List.getElem_cons_zero, List.getElem_cons_succ]
    refine G_take (i := 14) (u := undef) rfl (by kernel_rfl) (by kernel_rfl) (by kernel_rfl) (fun _ _ _ h => h) rfl (by kernel_rfl) (by decide) (by rfl) (Or.inr ⟨by rfl, rfl⟩) hHeld ?_
    simp only [Act.put, List.setIfInBounds_toArray, List.set_cons_zero, List.set_cons_succ, List.getElem_toArray, List.getElem_cons_zero, List.getElem_cons_succ]
    refine G_take (i := 15) (u := undef) rfl (by kernel_rfl) (by kernel_rfl) (by kernel_rfl) (fun _ _ _ h => h) rfl (by kernel_rfl) (by decide) (by rfl) (Or.inr ⟨by rfl, rfl⟩) hHeld ?_
    simp only [Act.put, List.setIfInBounds_toArray, List.set_cons_zero, List.set_cons_succ, List.getElem_toArray, List.getElem_cons_zero, List.getElem_cons_succ]
    refine G_take (i := 16) (u := undef) rfl (by kernel_rfl) (by kernel_rfl) (by kernel_rfl) (fun _ _ _ h => h) rfl (by kernel_rfl) (by decide) (by rfl) (Or.inr ⟨by rfl, rfl⟩) hHeld ?_
    simp only [Act.put, List.setIfInBounds_toArray, List.set_cons_zero, List.set_cons_succ, List.getElem_toArray, List.getElem_cons_zero, List.getElem_cons_succ]
    refine G_pure (i := 17) (u := undef) rfl (by kernel_rfl) (by kernel_rfl) (by kernel_rfl) (fun _ _ _ h => h) (by decide) (Or.inr ⟨by rfl, rfl⟩) hHeld ?_
    simp only [Act.put, List.setIfInBounds_toArray, List.set_cons_zero, List.set_cons_succ, List.getElem_toArray, List.getElem_cons_zero, List.getElem_cons_succ]
    refine G_pure (i := 18) (u := ?vpa18) rfl (by kernel_rfl) (by kernel_rfl) (by kernel_rfl) (fun _ _ _ h => h) (by decide) (Or.inl ⟨by rfl, ?hypa18⟩) hHeld ?_
    case hypa18 => (intro w hSw; go_simp; try with_reducible rfl)
    simp only [Act.put, List.setIfInBounds_toArray, List.set_cons_zero, List.set_cons_succ, List.getElem_toArray, List.getElem_cons_zero, List.getElem_cons_succ]
    refine G_pure (i := 19) (u := ?vpa19) rfl (by kernel_rfl) (by kernel_rfl) (by kernel_rfl) (fun _ _ _ h => h) (by decide) (Or.inl ⟨by rfl, ?hypa19⟩) hHeld ?_
    case hypa19 => (intro w hSw; go_simp; try with_reducible rfl)
    simp only [Act.put, List.setIfInBounds_toArray, List.set_cons_zero, List.set_cons_succ, List.getElem_toArray, List.getElem_cons_zero, List.getElem_cons_succ]
    refine G_pure (i := 20) (u := ?vpa20) rfl (by kernel_rfl) (by kernel_rfl) (by kernel_rfl) (fun _ _ _ h => h) (by decide) (Or.inl ⟨by rfl, ?hypa20⟩) hHeld ?_
    case hypa20 => (intro w hSw; go_simp; try with_reducible rfl)
    simp only [Act.put, List.setIfInBounds_toArray, List.set_cons_zero, List.set_cons_succ, List.getElem_toArray, List.getElem_cons_zero, List.getElem_cons_succ]
    refine G_all (rs := [21]) (by kernel_rfl) (by simp) ?_
    intro i hi; obtain rfl : i = 21 := by simpa using hi
    refine wpOp_run rfl (by rfl) ?_
    have bS6 := hHeld.keeps HS5.out
    have kk := block_allH bS6
    have ff := fun z => block_free bS6 z
    go_simp
    try refine ⟨fun e => absurd e (by decide), ?_⟩
    refine G_free _ _ _ _ (by kernel_rfl) ?_
    try simp only [Act.put, List.setIfInBounds_toArray, List.set_cons_zero, List.set_cons_succ, List.getElem_toArray, List.getElem_cons_zero, List.getElem_cons_succ]
    refine wpAny_done (by kernel_rfl) ?_ _
    refine NoPanic.normal ?_
    go_upto_region 8 with fail
    have bS7 := block_setCell bS6 (i := 2) (.bool true)
    have g7 : wd.grownBy (wd.setCell ⟨S, 2, none⟩ (.bool true)) (some S) := grown_setCell _ _ _ _
    have bR7 := grown_other g7 (hHeld.keeps HBR5.out) (by omega)
    have bI7 := grown_other g7 (hHeld.keeps HBI5.out) (by have := hSl; omega)
    refine wp_forgetH (fun W => W = wd.setCell ⟨S, 2, none⟩ (.bool true)) (by simp) ?_
    rintro w7 hw7
    rw [← hw7] at bS7 g7 bR7 bI7
    clear hw7
    have HB7 := Lib.hid bS7
    clear kk ff bS7
    go_wp2_with (first
      | ((with_reducible refine at_load 31 (.tmp 5) ?_); refine wpl_load (by rfl) 31 (.tmp 5) rfl GI (by rfl) 31 (I.map bc).toArray (0, 0) _ bI7 Tryz.underlying31 rfl (id_size hID) ?_)
      | ((with_reducible refine at_store 31 (.tmp 4) (.tmp 69) ?_); refine wpl_store (by rfl) 31 (.tmp 4) (.tmp 69) rfl (G + 1) (I.map bc).toArray (by rfl) (by rfl) 31 _ bR7 (id_size hID) (id_same (a := z32) rfl hID) (id_one _) ?_))
    have gF : w7.grownBy (w7.setRow (G + 1) (I.map bc).toArray) (some (G + 1)) := grown_setRow'
    have hfin := setRow_heap w7 (G + 1) _ (I.map bc).toArray _ _ bR7
    have xF : Ext W0 (w7.setRow (G + 1) (I.map bc).toArray) := by
      have h0 : W0.heap.size ≤ G := by have := X.size; omega
      have a1 : Ext W0 w4 := (X.trans x).grown g4 (fun k hk => by simp at hk; omega)
      exact (((a1.trans x5).trans hHeld).grown g7 (fun k hk => by simp at hk; omega)).grown gF (fun k hk => by simp at hk; omega)
    refine bodyPost_ret (results_cellH rfl _ _ (G + 1) _ _ _ _ (by rfl) hfin Tryz.underlying31 rfl (id_size hID)) rfl ⟨(by rw [hI]), ?_, xF, ?_⟩
    · have := grown_other gF HB7.out (by omega)
      simpa [spl] using this
    · intro g x hg hgS
      have hlt := block_lt hg
      exact grown_other gF (grown_other g7 (hHeld.keeps (x5.keeps (grown_other g4 (hx.keeps hg) hgS))) hgS) (by omega)
  | false =>
    refine wp_region_G 21 (fun v => Ext w5 v) (by kernel_rfl) fun wd hqd hHeld => ?_
    refine G_pure (i := 0) (u := ?vpb0) rfl (by kernel_rfl) (by kernel_rfl) (by kernel_rfl) (fun _ _ _ h => h) (by decide) (Or.inl ⟨by rfl, ?hypb0⟩) hHeld ?_
    case hypb0 => (intro w hSw; go_simp; try with_reducible rfl)
    simp only [Act.put, List.setIfInBounds_toArray, List.set_cons_zero, List.set_cons_succ, List.getElem_toArray, List.getElem_cons_zero, List.getElem_cons_succ]
    refine G_pure (i := 1) (u := ?vpb1) rfl (by kernel_rfl) (by kernel_rfl) (by kernel_rfl) (fun _ _ _ h => h) (by decide) (Or.inl ⟨by rfl, ?hypb1⟩) hHeld ?_
    case hypb1 => (intro w hSw; go_simp; try with_reducible rfl)
    simp only [Act.put, List.setIfInBounds_toArray, List.set_cons_zero, List.set_cons_succ, List.getElem_toArray, List.getElem_cons_zero, List.getElem_cons_succ]
    refine G_pure (i := 2) (u := ?vpb2) rfl (by kernel_rfl) (by kernel_rfl) (by kernel_rfl) (fun _ _ _ h => h) (by decide) (Or.inl ⟨by rfl, ?hypb2⟩) hHeld ?_
    case hypb2 => (intro w hSw; go_simp; try with_reducible rfl)
    simp only [Act.put, List.setIfInBounds_toArray, List.set_cons_zero, List.set_cons_succ, List.getElem_toArray, List.getElem_cons_zero, List.getElem_cons_succ]
    refine G_pure (i := 3) (u := ?vpb3) rfl (by kernel_rfl) (by kernel_rfl) (by kernel_rfl) (fun _ _ _ h => h) (by decide) (Or.inl ⟨by rfl, ?hypb3⟩) hHeld ?_
    case hypb3 => (intro w hSw; go_simp; try with_reducible rfl)
    simp only [Act.put, List.setIfInBounds_toArray, List.set_cons_zero, List.set_cons_succ, List.getElem_toArray, List.getElem_cons_zero, List.getElem_cons_succ]
    refine G_take (i := 4) (u := ?vpb4) rfl (by kernel_rfl) (by kernel_rfl) (by kernel_rfl) (fun _ _ _ h => h) rfl (by kernel_rfl) (by decide) (by rfl) (Or.inl ⟨by rfl, ?hypb4⟩) hHeld ?_
    case hypb4 => (intro w hSw; have kk := KS _ hSw; go_simp; try with_reducible rfl)
    simp only [Act.put, List.setIfInBounds_toArray, List.set_cons_zero, List.set_cons_succ, List.getElem_toArray, List.getElem_cons_zero, List.getElem_cons_succ]
    refine G_pure (i := 5) (u := ?vpb5) rfl (by kernel_rfl) (by kernel_rfl) (by kernel_rfl) (fun _ _ _ h => h) (by decide) (Or.inl ⟨by rfl, ?hypb5⟩) hHeld ?_
    case hypb5 => (intro w hSw; go_simp; try with_reducible rfl)
    simp only [Act.put, List.setIfInBounds_toArray, List.set_cons_zero, List.set_cons_succ, List.getElem_toArray, List.getElem_cons_zero, List.getElem_cons_succ]
    refine G_pure (i := 6) (u := ?vpb6) rfl (by kernel_rfl) (by kernel_rfl) (by kernel_rfl) (fun _ _ _ h => h) (by decide) (Or.inl ⟨by rfl, ?hypb6⟩) hHeld ?_
    case hypb6 => (intro w hSw; go_simp; try with_reducible rfl)
    simp only [Act.put, List.setIfInBounds_toArray, List.set_cons_zero, List.set_cons_succ, List.getElem_toArray, List.getElem_cons_zero, List.getElem_cons_succ]
    refine G_pure (i := 7) (u := ?vpb7) rfl (by kernel_rfl) (by kernel_rfl) (by kernel_rfl) (fun _ _ _ h => h) (by decide) (Or.inl ⟨by rfl, ?hypb7⟩) hHeld ?_
    case hypb7 => (intro w hSw; go_simp; try with_reducible rfl)
    simp only [Act.put, List.setIfInBounds_toArray, List.set_cons_zero, List.set_cons_succ, List.getElem_toArray, List.getElem_cons_zero, List.getElem_cons_succ]
    refine G_pure (i := 8) (u := ?vpb8) rfl (by kernel_rfl) (by kernel_rfl) (by kernel_rfl) (fun _ _ _ h => h) (by decide) (Or.inl ⟨by rfl, ?hypb8⟩) hHeld ?_
    case hypb8 => (intro w hSw; go_simp; try with_reducible rfl)
    simp only [Act.put, List.setIfInBounds_toArray, List.set_cons_zero, List.set_cons_succ, List.getElem_toArray, List.getElem_cons_zero, List.getElem_cons_succ]
    refine G_pure (i := 9) (u := ?vpb9) rfl (by kernel_rfl) (by kernel_rfl) (by kernel_rfl) (fun _ _ _ h => h) (by decide) (Or.inl ⟨by rfl, ?hypb9⟩) hHeld ?_
    case hypb9 => (intro w hSw; go_simp; try with_reducible rfl)
    simp only [Act.put, List.setIfInBounds_toArray, List.set_cons_zero, List.set_cons_succ, List.getElem_toArray, List.getElem_cons_zero, List.getElem_cons_succ]
    refine G_take (i := 10) (u := ?vpb10) rfl (by kernel_rfl) (by kernel_rfl) (by kernel_rfl) (fun _ _ _ h => h) rfl (by kernel_rfl) (by decide) (by rfl) (Or.inl ⟨by rfl, ?hypb10⟩) hHeld ?_
    case hypb10 => (intro w hSw; have kk := KS _ hSw; go_simp; try with_reducible rfl)
    simp only [Act.put, List.setIfInBounds_toArray, List.set_cons_zero, List.set_cons_succ, List.getElem_toArray, List.getElem_cons_zero, List.getElem_cons_succ]
    refine G_pure (i := 11) (u := ?vpb11) rfl (by kernel_rfl) (by kernel_rfl) (by kernel_rfl) (fun _ _ _ h => h) (by decide) (Or.inl ⟨by rfl, ?hypb11⟩) hHeld ?_
    case hypb11 => (intro w hSw; go_simp; try with_reducible rfl)
    simp only [Act.put, List.setIfInBounds_toArray, List.set_cons_zero, List.set_cons_succ, List.getElem_toArray, List.getElem_cons_zero, List.getElem_cons_succ]
    refine G_pure (i := 12) (u := ?vpb12) rfl (by kernel_rfl) (by kernel_rfl) (by kernel_rfl) (fun _ _ _ h => h) (by decide) (Or.inl ⟨by rfl, ?hypb12⟩) hHeld ?_
    case hypb12 => (intro w hSw; go_simp; try with_reducible rfl)
    simp only [Act.put, List.setIfInBounds_toArray, List.set_cons_zero, List.set_cons_succ, List.getElem_toArray, List.getElem_cons_zero, List.getElem_cons_succ]
    refine G_pure (i := 13) (u := ?vpb13) rfl (by kernel_rfl) (by kernel_rfl) (by kernel_rfl) (fun _ _ _ h => h) (by decide) (Or.inl ⟨by rfl, ?hypb13⟩) hHeld ?_
    case hypb13 => (intro w hSw; go_simp; try with_reducible rfl)
    simp only [Act.put, List.setIfInBounds_toArray, List.set_cons_zero, List.set_cons_succ, List.getElem_toArray, List.getElem_cons_zero, List.getElem_cons_succ]
    refine G_take (i := 14) (u := _) rfl (by kernel_rfl) (by kernel_rfl) (by kernel_rfl) (fun _ _ _ h => h) rfl (by kernel_rfl) (by decide) (by rfl) (yieldsIf_load_mid (by rfl) _ _ rfl _ _ rfl ((hdV d).obj) _ (fun w hSw => rangeAt_ext HRO.out hSw) Tryz.underlying45 rfl hio) hHeld ?_
    simp only [Act.put, List.setIfInBounds_toArray, List.set_cons_zero, List.set_cons_succ, List.getElem_toArray, List.getElem_cons_zero, List.getElem_cons_succ]
    refine G_take (i := 15) (u := _) rfl (by kernel_rfl) (by kernel_rfl) (by kernel_rfl) (fun _ _ _ h => h) rfl (by kernel_rfl) (by decide) (by rfl) (yieldsIf_load_mid (by rfl) _ _ rfl _ _ rfl (QA.toList) _ (fun w hSw => range_blk (hSw.keeps HB05.out)) Tryz.underlying45 rfl hiq) hHeld ?_
    simp only [Act.put, List.setIfInBounds_toArray, List.set_cons_zero, List.set_cons_succ, List.getElem_toArray, List.getElem_cons_zero, List.getElem_cons_succ]
    refine G_all (rs := [16]) (by kernel_rfl) (by simp) ?_
    intro i hi; obtain rfl : i = 16 := by simpa using hi
    refine wpOp_run rfl (by rfl) ?_
    go_simp
    refine Calls.mono (objSame _ (hdV d).obj.toArray QA d.vb d.ve d.vp vb ve vp d.o o (HX5.out.ext hHeld).obj (HQ5.out.ext hHeld)) ?_
    rintro e u6 ⟨rfl, xu6⟩
    rw [HSB.out]
    have hHeld := hHeld.trans xu6
    first | refine ⟨fun _ => hHeld, ?_⟩ | refine ⟨hHeld, ?_⟩
    try simp only [Act.put, List.setIfInBounds_toArray, List.set_cons_zero, List.set_cons_succ, List.getElem_toArray, List.getElem_cons_zero, List.getElem_cons_succ]
    refine G_pure (i := 17) (u := ?vpb17) rfl (by kernel_rfl) (by kernel_rfl) (by kernel_rfl) (fun _ _ _ h => h) (by decide) (Or.inl ⟨by rfl, ?hypb17⟩) hHeld ?_
    case hypb17 => (intro w hSw; go_simp; try with_reducible rfl)
    simp only [Act.put, List.setIfInBounds_toArray, List.set_cons_zero, List.set_cons_succ, List.getElem_toArray, List.getElem_cons_zero, List.getElem_cons_succ]
    refine G_pure (i := 18) (u := ?vpb18) rfl (by kernel_rfl) (by kernel_rfl) (by kernel_rfl) (fun _ _ _ h => h) (by decide) (Or.inl ⟨by rfl, ?hypb18⟩) hHeld ?_
    case hypb18 => (intro w hSw; go_simp; try with_reducible rfl)
    simp only [Act.put, List.setIfInBounds_toArray, List.set_cons_zero, List.set_cons_succ, List.getElem_toArray, List.getElem_cons_zero, List.getElem_cons_succ]
    refine G_pure (i := 19) (u := ?vpb19) rfl (by kernel_rfl) (by kernel_rfl) (by kernel_rfl) (fun _ _ _ h => h) (by decide) (Or.inl ⟨by rfl, ?hypb19⟩) hHeld ?_
    case hypb19 => (intro w hSw; go_simp; try with_reducible rfl)
    simp only [Act.put, List.setIfInBounds_toArray, List.set_cons_zero, List.set_cons_succ, List.getElem_toArray, List.getElem_cons_zero, List.getElem_cons_succ]
    refine G_pure (i := 20) (u := ?vpb20) rfl (by kernel_rfl) (by kernel_rfl) (by kernel_rfl) (fun _ _ _ h => h) (by decide) (Or.inl ⟨by rfl, ?hypb20⟩) hHeld ?_
    case hypb20 => (intro w hSw; go_simp; try with_reducible rfl)
    simp only [Act.put, List.setIfInBounds_toArray, List.set_cons_zero, List.set_cons_succ, List.getElem_toArray, List.getElem_cons_zero, List.getElem_cons_succ]
    refine G_all (rs := [21]) (by kernel_rfl) (by simp) ?_
    intro i hi; obtain rfl : i = 21 := by simpa using hi
    refine wpOp_run rfl (by rfl) ?_
    have bS6 := hHeld.keeps HS5.out
    have kk := block_allH bS6
    have ff := fun z => block_free bS6 z
    go_simp
    try refine ⟨fun e => absurd e (by decide), ?_⟩
    refine G_free _ _ _ _ (by kernel_rfl) ?_
    try simp only [Act.put, List.setIfInBounds_toArray, List.set_cons_zero, List.set_cons_succ, List.getElem_toArray, List.getElem_cons_zero, List.getElem_cons_succ]
    refine wpAny_done (by kernel_rfl) ?_ _
    refine NoPanic.normal ?_
    go_upto_region 8 with fail
    have bS7 := block_setCell bS6 (i := 2) (.bool (!sb))
    have g7 : u6.grownBy (u6.setCell ⟨S, 2, none⟩ (.bool (!sb))) (some S) := grown_setCell _ _ _ _
    have bR7 := grown_other g7 (hHeld.keeps HBR5.out) (by omega)
    have bI7 := grown_other g7 (hHeld.keeps HBI5.out) (by have := hSl; omega)
    refine wp_forgetH (fun W => W = u6.setCell ⟨S, 2, none⟩ (.bool (!sb))) (by simp) ?_
    rintro w7 hw7
    rw [← hw7] at bS7 g7 bR7 bI7
    clear hw7
    have HB7 := Lib.hid bS7
    clear kk ff bS7
    go_wp2_with (first
      | ((with_reducible refine at_load 31 (.tmp 5) ?_); refine wpl_load (by rfl) 31 (.tmp 5) rfl GI (by rfl) 31 (I.map bc).toArray (0, 0) _ bI7 Tryz.underlying31 rfl (id_size hID) ?_)
      | ((with_reducible refine at_store 31 (.tmp 4) (.tmp 69) ?_); refine wpl_store (by rfl) 31 (.tmp 4) (.tmp 69) rfl (G + 1) (I.map bc).toArray (by rfl) (by rfl) 31 _ bR7 (id_size hID) (id_same (a := z32) rfl hID) (id_one _) ?_))
    have gF : w7.grownBy (w7.setRow (G + 1) (I.map bc).toArray) (some (G + 1)) := grown_setRow'
    have hfin := setRow_heap w7 (G + 1) _ (I.map bc).toArray _ _ bR7
    have xF : Ext W0 (w7.setRow (G + 1) (I.map bc).toArray) := by
      have h0 : W0.heap.size ≤ G := by have := X.size; omega
      have a1 : Ext W0 w4 := (X.trans x).grown g4 (fun k hk => by simp at hk; omega)
      exact (((a1.trans x5).trans hHeld).grown g7 (fun k hk => by simp at hk; omega)).grown gF (fun k hk => by simp at hk; omega)
    refine bodyPost_ret (results_cellH rfl _ _ (G + 1) _ _ _ _ (by rfl) hfin Tryz.underlying31 rfl (id_size hID)) rfl ⟨(by rw [hI]), ?_, xF, ?_⟩
    · have := grown_other gF HB7.out (by omega)
      simpa [spl] using this
    · intro g x hg hgS
      have hlt := block_lt hg
      exact grown_other gF (grown_other g7 (hHeld.keeps (x5.keeps (grown_other g4 (hx.keeps hg) hgS))) hgS) (by omega)
end Go.Proofs.YtpadfabjihaapaaGreatDoor

namespace Go.Proofs.YtpadfabjihaapaaGreatDoor
open Go.RowKit Go.Maps
set_option linter.unusedVariables false
set_option linter.unusedSimpArgs false

def KpT (p : ByteArray) : Lit := .string p.data.toList
theorem KpT_inj {p q : ByteArray} (h : KpT p = KpT q) : p = q := by
  unfold KpT at h
  injection h with h
  exact ByteArray.ext (Array.toList_inj.1 h)
theorem KpT_key (p : ByteArray) : WideAt.IsKeyLit (KpT p) := by unfold KpT; constructor
/-- How a value of whatever type reads: as itself. -/
def anyElem (v : Value) : Option (DataW Value × List MemPlace) := some (.held v, [])
/-- Block b is a map of at most n entries: f says what is where. -/
def OMap (P : Program) (k : TypeId) (w : World) (b n : Nat) (f : ByteArray → Option Value) : Prop :=
  ∃ D : DataW Value, w.ownsMap P k anyElem b n D ∧ Tidy D ∧ (∀ p, Maps.has D (KpT p) = (f p).isSome) ∧ ∀ p zd, D.atKey (KpT p) zd = match f p with | some v => .held v | none => zd
section
variable {P : Program} {k : TypeId} {w : World} {b n : Nat} {f : ByteArray → Option Value}
theorem OMap.made (w : World) : OMap P k (w.alloc (.map #[] 0)) w.heap.size 0 (fun _ => none) :=
  ⟨.map [], World.ownsMap_made w P k anyElem, tidy_empty, fun p => rfl, fun p zd => rfl⟩
theorem OMap.ext {w' : World} (h : OMap P k w b n f) (x : Ext w w') : OMap P k w' b n f := by
  obtain ⟨D, h1, h2⟩ := h
  refine ⟨D, ?_, h2⟩
  obtain ⟨es, clock, hb, q⟩ := h1
  exact ⟨es, clock, x.keeps hb, q⟩
theorem OMap.grown {w' : World} (h : OMap P k w b n f) {r : Option Nat} (g : w.grownBy w' r) (hr : r ≠ some b) : OMap P k w' b n f := by
  obtain ⟨D, h1, h2⟩ := h
  exact ⟨D, h1.kept g (fun e => hr e.symm), h2⟩
theorem OMap.lt (h : OMap P k w b n f) : b < w.heap.size := by
  obtain ⟨D, h1, _⟩ := h
  exact h1.lt
theorem OMap.block (h : OMap P k w b n f) : ∃ es c, w.heap[b]? = some (.map es c) := by
  obtain ⟨D, ⟨es, clock, hb, _⟩, _⟩ := h
  exact ⟨es, clock, hb⟩
theorem keyStr (hk : P.underlying k = some .string) {p : ByteArray} (hp : p.size ≤ maxLen) : keyOf P k (.string p) = some (KpT p) := Go.WideMaps.keyOf_string_mk hk hp
theorem OMap.look {t e : TypeId} (h : OMap P k w b n f) (hk : P.underlying k = some .string) (ht : P.underlying t = some (.map k e)) {z : Value} (hz : (zeroValue e).run P w = .ok z w) (p : ByteArray) (hp : p.size ≤ maxLen) :
    (Instr.lookup t (.map (some b)) (.string p) false).run P w = .ok ((f p).getD z) w := by
  obtain ⟨D, h1, h2, h3, h4⟩ := h
  obtain ⟨v, ps, hr, hv⟩ := h1.lookup (string_keyed hk) ht hz (zd := .held z) (zp := []) rfl (keyStr hk hp)
  rw [h4] at hv
  rw [hr]
  unfold anyElem at hv
  cases hf : f p with
  | none => rw [hf] at hv; simp at hv; simp [hv.1]
  | some u => rw [hf] at hv; simp at hv; simp [hv.1]
theorem OMap.look_ok {t e : TypeId} (h : OMap P k w b n f) (hk : P.underlying k = some .string) (ht : P.underlying t = some (.map k e)) {z : Value} (hz : (zeroValue e).run P w = .ok z w) (p : ByteArray) (hp : p.size ≤ maxLen) :
    (Instr.lookup t (.map (some b)) (.string p) true).run P w = .ok (.tuple #[(f p).getD z, .bool (f p).isSome]) w := by
  obtain ⟨D, h1, h2, h3, h4⟩ := h
  obtain ⟨v, ps, hr, hv⟩ := h1.look_ok (string_keyed hk) ht hz (zd := .held z) (zp := []) rfl (keyStr hk hp)
  rw [h4] at hv
  rw [hr, h3]
  unfold anyElem at hv
  cases hf : f p with
  | none => rw [hf] at hv; simp at hv; simp [hv.1]
  | some u => rw [hf] at hv; simp at hv; simp [hv.1]
theorem OMap.put {t e : TypeId} (h : OMap P k w b n f) (hk : P.underlying k = some .string) (ht : P.underlying t = some (.map k e)) (hn : n < maxLen) (p : ByteArray) (hp : p.size ≤ maxLen) (v : Value) :
    ∃ w', (Instr.mapUpdate t (.map (some b)) (.string p) v).run P w = .ok () w' ∧ OMap P k w' b (n + 1) (fun q => if q = p then some v else f q) ∧ w.grownBy w' (some b) := by
  obtain ⟨D, h1, h2, h3, h4⟩ := h
  obtain ⟨w', hr, hm, hg⟩ := h1.update (string_keyed hk) ht hn (keyStr hk hp) (val := v) (d := .held v) (ps := []) rfl
  refine ⟨w', hr, ⟨_, hm, h2.put (KpT_key p) _, fun q => ?_, fun q zd => ?_⟩, hg⟩
  · by_cases e : q = p
    · subst e
      rw [has_put_same h2.isMap (KpT_key q)]
      simp
    · rw [has_put_other (fun h => e (KpT_inj h)), h3]
      simp [e]
  · by_cases e : q = p
    · subst e
      rw [atKey_put_same h2.isMap (KpT_key q)]
      simp
    · rw [atKey_put_other (fun h => e (KpT_inj h)), h4]
      simp [e]
/-- 'm[k] = v' at an operation. -/
theorem wpl_omPut {ops : Array Oper} {rest : List Oper} {o : Oper} {a : Act} {Q : Exit → Act → World → Prop} (hg : o.guard = none) (m x v : Operand) (t : TypeId) (hop : o.op = Op.mapUpdate t m x v)
    {e : TypeId} (hk : P.underlying k = some .string) (ht : P.underlying t = some (.map k e)) (h : OMap P k w b n f) (hn : n < maxLen) (hm : a.eval m = .map (some b)) (p : ByteArray) (hp : p.size ≤ maxLen) (val : Value) (hx : a.eval x = .string p) (hv : a.eval v = val)
    (hK : ∀ w', OMap P k w' b (n + 1) (fun q => if q = p then some val else f q) → w.grownBy w' (some b) → wpList P ops Q rest (a.put o.dst undef) w') : wpList P ops Q (o :: rest) a w := by
  refine wpList_plain hg fun K' hK' => ?_
  obtain ⟨w', hrun, r1, r2⟩ := h.put hk ht hn p hp val
  unfold Oper.wp
  simp [execOp, hop, hm, hx, hv, hrun, Result.andThen]
  exact hK' _ _ (hK w' r1 r2)
end
end Go.Proofs.YtpadfabjihaapaaGreatDoor

namespace Go.Proofs.YtpadfabjihaapaaGreatDoor
open Go.RowKit
set_option linter.unusedVariables false
set_option linter.unusedSimpArgs false

/-- What put makes of the objects and of the mark of twins. -/
def putS (os : List ObjL) (tw : Bool) (o : ObjL) : List ObjL × Bool :=
  match os.find? (fun x => decide (idL x = idL o)) with
  | none => (os ++ [o], tw)
  | some x => (os, tw || !sameB x o)
/-- The splitter's variable S holds the objects os; the row of them is the call's own from base on; no object's row of entries lies in a block of av. -/
def SplW (w : World) (S base : Nat) (av : Nat → Prop) (os : List ObjL) (tw : Bool) : Prop :=
  ∃ (v : Value) (ds : List HdV), ds.map (·.o) = os ∧ (∀ d ∈ ds, d.id = idL d.o ∧ ObjW w d ∧ ∀ g, d.ve.ownBlock = some g → ¬ av g) ∧ w.ownsRow base 47 70 v (ds.map hdV).length ((ds.map hdV).flatMap hdC) ∧ spl w S v false tw ∧ base ≤ w.heap.size
/-- Only blocks of objects under Ids and the splitter's turn. -/
def KeepH (w w' : World) : Prop := ∀ (g : Nat) (x : Obj), w.heap[g]? = some x → (∀ c f, x ≠ .cells c 47 f) → (∀ c f, x ≠ .cells c 71 f) → w'.heap[g]? = some x
theorem KeepH.of_ext {w w' : World} (x : Ext w w') : KeepH w w' := fun g o hg _ _ => x.keeps hg
theorem KeepH.trans {a b c : World} (h : KeepH a b) (k : KeepH b c) : KeepH a c := fun g o hg h1 h2 => k g o (h g o hg h1 h2) h1 h2
theorem KeepH.cells {w w' : World} (h : KeepH w w') {g : Nat} {c : Array Value} {t : TypeId} {f : Nat × Nat} (hg : w.heap[g]? = some (.cells c t f)) (h1 : t ≠ 47) (h2 : t ≠ 71) : w'.heap[g]? = some (.cells c t f) :=
  h g _ hg (fun c' f' e => by injection e with _ e _; exact h1 e) (fun c' f' e => by injection e with _ e _; exact h2 e)
theorem KeepH.row {w w' : World} (h : KeepH w w') {base : Nat} {e : TypeId} {size : Nat} {v : Value} {n : Nat} {xs : List Value} (o : w.ownsRow base e size v n xs) (h1 : e ≠ 47) (h2 : e ≠ 71) : w'.ownsRow base e size v n xs :=
  own_keep o fun g c hg => h.cells hg h1 h2
theorem ObjW.keepH {w w' : World} {d : HdV} (h : ObjW w d) (k : KeepH w w') : ObjW w' d :=
  h.keep fun g c t f hg ht => k.cells hg (by rcases ht with rfl | rfl <;> decide) (by rcases ht with rfl | rfl <;> decide)
theorem SplW.ext {w w' : World} {S base : Nat} {av : Nat → Prop} {os : List ObjL} {tw : Bool} (h : SplW w S base av os tw) (x : Ext w w') : SplW w' S base av os tw := by
  obtain ⟨v, ds, h1, h2, h3, h4, h5⟩ := h
  exact ⟨v, ds, h1, fun d hd => ⟨(h2 d hd).1, (h2 d hd).2.1.ext x, (h2 d hd).2.2⟩, ownsRow_ext h3 x, x.keeps h4, Nat.le_trans h5 x.size⟩
/-- Other blocks avoided. -/
theorem SplW.less {w : World} {S base : Nat} {av av' : Nat → Prop} {os : List ObjL} {tw : Bool} (h : SplW w S base av os tw) (k : ∀ g, av' g → av g) : SplW w S base av' os tw := by
  obtain ⟨v, ds, h1, h2, h3⟩ := h
  exact ⟨v, ds, h1, fun d hd => ⟨(h2 d hd).1, (h2 d hd).2.1, fun g hg q => (h2 d hd).2.2 g hg (k g q)⟩, h3⟩
/-- Blocks that are not yet there are avoided. -/
theorem SplW.more {w : World} {S base : Nat} {av av' : Nat → Prop} {os : List ObjL} {tw : Bool} (h : SplW w S base av os tw) (k : ∀ g, av' g → av g ∨ w.heap.size ≤ g) : SplW w S base av' os tw := by
  obtain ⟨v, ds, h1, h2, h3⟩ := h
  refine ⟨v, ds, h1, fun d hd => ⟨(h2 d hd).1, (h2 d hd).2.1, fun g hg q => ?_⟩, h3⟩
  rcases k g q with q | q
  · exact (h2 d hd).2.2 g hg q
  · have := ((h2 d hd).2.1.re.lt g hg).2
    omega
/-- A block of av may turn (and blocks of types that objects do not hold). -/
theorem SplW.turn {w w' : World} {S base : Nat} {av : Nat → Prop} {os : List ObjL} {tw : Bool} (h : SplW w S base av os tw) {r : Option Nat} (g : w.grownBy w' r) (hr : ∀ k, r = some k → av k ∧ ∃ c f, w.heap[k]? = some (.cells c 80 f)) : SplW w' S base av os tw := by
  obtain ⟨v, ds, h1, h2, h3, h4, h5⟩ := h
  have hk : ∀ (b : Nat) (c : Array Value) (t : TypeId) (f : Nat × Nat), w.heap[b]? = some (Obj.cells c t f) → t ≠ 80 → w'.heap[b]? = some (Obj.cells c t f) := fun b c t f hb ht => grown_keep g hb (fun e => by
    obtain ⟨_, c2, f2, h2⟩ := hr b e
    rw [h2] at hb
    simp only [Option.some.injEq, Obj.cells.injEq] at hb
    exact ht hb.2.1.symm)
  refine ⟨v, ds, h1, fun d hd => ⟨(h2 d hd).1, ⟨(h2 d hd).2.1.rb.keep fun b c f hb => hk b c _ f hb (by decide), own_apart (h2 d hd).2.1.re g (fun k e e2 => (h2 d hd).2.2 k e2 (hr k e).1), (h2 d hd).2.1.rp, (h2 d hd).2.1.ok, (h2 d hd).2.1.id⟩, (h2 d hd).2.2⟩, own_keep h3 fun b c hb => hk b c _ _ hb (by decide), hk S _ _ _ h4 (by decide), Nat.le_trans h5 g.size⟩
set_option maxHeartbeats 4000000 in
set_option maxRecDepth 100000 in
theorem putC (W0 w : World) (vb ve vp : Value) (o : ObjL) (ho : ObjW w ⟨idL o, o, vb, ve, vp⟩) (hT : Tabs w) (hc : checkB o = true) (S base : Nat) (av : Nat → Prop) (os : List ObjL) (tw : Bool) (hs : SplW w S base av os tw) (hav : ∀ g, ve.ownBlock = some g → ¬ av g) (hl : os.length ≤ 900000)
    (X : Ext W0 w) (hb : W0.heap.size ≤ base) (hS : W0.heap.size ≤ S) :
    Calls Tryz.prog 53 #[Value.pointer (some ⟨S, 0, none⟩), Value.agg (objC vb ve vp o).toArray] w fun e w' => e = .returned (.agg ((idL o).map bc).toArray) ∧ SplW w' S base av (putS os tw o).1 (putS os tw o).2 ∧ KeepH w w' ∧ Ext W0 w' := by
  obtain ⟨v, ds, h1, h2, h3, h4, h5⟩ := hs
  have hlen : ds.length = os.length := by rw [← h1]; simp
  have hok : ∀ e ∈ ds.map hdV, HdOk e := fun e he => by
    obtain ⟨d, hd, rfl⟩ := List.mem_map.1 he
    exact (h2 d hd).2.1.hd
  unfold putS
  cases hf : os.find? (fun x => decide (idL x = idL o)) with
  | none =>
    have hn : ∀ e ∈ ds.map hdV, e.id ≠ idL o := fun e he => by
      obtain ⟨d, hd, rfl⟩ := List.mem_map.1 he
      have := (List.find?_eq_none.1 hf) d.o (by rw [← h1]; exact List.mem_map_of_mem hd)
      show d.id ≠ idL o
      rw [(h2 d hd).1]
      simpa using this
    refine Calls.mono (putNew W0 w _ vb ve vp o ho.obj hT hc S base v tw (ds.map hdV) hok hn (by simp; omega) h3 h4 X hb h5 hS) ?_
    rintro e w' ⟨v', rfl, o', s', x', k'⟩
    have hk : KeepH w w' := fun g x hg n1 n2 => k' g x hg (fun e => by subst e; rw [h4] at hg; exact n2 _ _ (Option.some.inj hg).symm) (fun e => by
      rcases h3.2 with ⟨rfl, _⟩ | ⟨g', cap, cur, rfl, _, hh, _⟩
      · simp [Value.ownBlock] at e
      · simp [Value.ownBlock] at e
        subst e
        rw [hh] at hg
        exact n1 _ _ (Option.some.inj hg).symm)
    refine ⟨rfl, ⟨v', ds ++ [⟨idL o, o, vb, ve, vp⟩], by simp [h1], fun d hd => ?_, ?_, s', ?_⟩, hk, x'⟩
    · rcases List.mem_append.1 hd with q | q
      · exact ⟨(h2 d q).1, (h2 d q).2.1.keepH hk, (h2 d q).2.2⟩
      · rw [List.mem_singleton.1 q]
        exact ⟨rfl, ho.keepH hk, hav⟩
    · simpa [hdV] using o'
    · rcases o'.2 with ⟨_, h0⟩ | ⟨g, cap, cur, _, hb', hh, _⟩
      · simp at h0
      · have := block_lt hh
        omega
  | some x0 =>
    rw [List.find?_eq_some_iff_getElem] at hf
    obtain ⟨hp, i, hi, hx, hbef⟩ := hf
    have hp := of_decide_eq_true hp
    subst h1
    rw [List.getElem_map] at hx
    have hi' : i < ds.length := by simpa using hi
    have hm := List.getElem_mem hi'
    refine Calls.mono (putOld W0 w _ vb ve vp o rfl ho hT hc S base v tw (ds.map hdV) hok (by simp at hl ⊢; omega) h3 h4 X h5 hS i (by simpa using hi') ds[i] (by simp) (h2 _ hm).2.1 (by rw [(h2 _ hm).1, hx]; exact hp) (fun j hj hji => ?_)) ?_
    · have hj' : j < ds.length := by simpa using hj
      have := hbef j hji
      rw [List.getElem_map] at this
      rw [List.getElem_map]
      show ds[j].id ≠ idL o
      rw [(h2 _ (List.getElem_mem hj')).1]
      simpa using this
    · rintro e w' ⟨rfl, s', x', k'⟩
      rw [hx] at s'
      have hk : KeepH w w' := fun g x hg n1 n2 => k' g x hg (fun e => by subst e; rw [h4] at hg; exact n2 _ _ (Option.some.inj hg).symm)
      have h3' : w'.ownsRow base 47 70 v (ds.map hdV).length ((ds.map hdV).flatMap hdC) := own_keep h3 fun g c hg => k' g _ hg (fun e => by subst e; rw [h4] at hg; simp at hg)
      refine ⟨rfl, ⟨v, ds, rfl, fun d hd => ⟨(h2 d hd).1, (h2 d hd).2.1.keepH hk, (h2 d hd).2.2⟩, h3', s', ?_⟩, hk, x'⟩
      rcases h3'.2 with ⟨_, h0⟩ | ⟨g, cap, cur, _, hb', hh, _⟩
      · rw [List.length_map] at h0
        omega
      · have := block_lt hh
        omega
end Go.Proofs.YtpadfabjihaapaaGreatDoor

namespace Go.Proofs.YtpadfabjihaapaaGreatDoor
open Go.RowKit
set_option linter.unusedVariables false
set_option linter.unusedSimpArgs false

def cutI (s : ByteArray) : Int := Lib.indexByte s.data.toList 47
/-- A path's first name, what stands behind its slash, and whether there is one. -/
def cutN (s : ByteArray) : ByteArray := if cutI s = -1 then s else s.extract 0 (cutI s).toNat
def cutR (s : ByteArray) : ByteArray := if cutI s = -1 then ⟨#[]⟩ else s.extract ((cutI s).toNat + 1) s.size
def cutW (s : ByteArray) : Bool := !decide (cutI s = -1)
theorem cutV_eq (s : ByteArray) : cutV s = .tuple #[.string (cutN s), .string (cutR s), .bool (cutW s)] := by
  unfold cutV cutN cutR cutW cutI
  by_cases h : Lib.indexByte s.data.toList 47 = -1
  · rw [if_pos h, if_pos h, if_pos h, decide_eq_true h]; rfl
  · rw [if_neg h, if_neg h, if_neg h, decide_eq_false h]; rfl
theorem cutN_size (s : ByteArray) : (cutN s).size ≤ s.size := by
  unfold cutN; split
  · exact Nat.le_refl _
  · rw [ByteArray.size_extract]; omega
theorem cutR_size (s : ByteArray) : (cutR s).size ≤ s.size := by
  unfold cutR; split
  · exact Nat.zero_le _
  · rw [ByteArray.size_extract]; omega
/-- The names, each once, as they come. -/
def addN (a : List ByteArray) (f : Fl) : List ByteArray := if hasS a (cutN f.path) = true then a else a ++ [cutN f.path]
def namesF (l : List Fl) : List ByteArray := l.foldl addN []
def isBelow (nm : ByteArray) (f : Fl) : Bool := cutW f.path && ((cutN f.path).toList == nm.toList)
def isText (nm : ByteArray) (f : Fl) : Bool := !cutW f.path && ((cutN f.path).toList == nm.toList)
def belowF (l : List Fl) (nm : ByteArray) : List Fl := (l.filter (isBelow nm)).map fun f => ⟨cutR f.path, f.text⟩
def textO (l : List Fl) (nm : ByteArray) : Option ByteArray := (l.filter (isText nm)).getLast?.map Fl.text
theorem namesF_snoc (l : List Fl) (f : Fl) : namesF (l ++ [f]) = addN (namesF l) f := by unfold namesF; rw [List.foldl_append]; rfl
theorem belowF_snoc (l : List Fl) (f : Fl) (nm : ByteArray) : belowF (l ++ [f]) nm = if isBelow nm f = true then belowF l nm ++ [⟨cutR f.path, f.text⟩] else belowF l nm := by
  unfold belowF
  rw [List.filter_append, List.map_append]
  split
  · rename_i h; rw [List.filter_cons_of_pos h]; rfl
  · rename_i h; rw [List.filter_cons_of_neg h]; simp
theorem textO_snoc (l : List Fl) (f : Fl) (nm : ByteArray) : textO (l ++ [f]) nm = if isText nm f = true then some f.text else textO l nm := by
  unfold textO
  rw [List.filter_append]
  split
  · rename_i h; rw [List.filter_cons_of_pos h]; simp
  · rename_i h; rw [List.filter_cons_of_neg h]; simp
theorem isBelow_iff {nm : ByteArray} {f : Fl} : isBelow nm f = true ↔ cutW f.path = true ∧ nm = cutN f.path := by
  unfold isBelow
  rw [Bool.and_eq_true, beq_nm]
  exact ⟨fun h => ⟨h.1, h.2.symm⟩, fun h => ⟨h.1, h.2.symm⟩⟩
theorem isText_iff {nm : ByteArray} {f : Fl} : isText nm f = true ↔ cutW f.path = false ∧ nm = cutN f.path := by
  unfold isText
  rw [Bool.and_eq_true, beq_nm, Bool.not_eq_true']
  exact ⟨fun h => ⟨h.1, h.2.symm⟩, fun h => ⟨h.1, h.2.symm⟩⟩
theorem names_len : ∀ (l : List Fl) (a : List ByteArray), (l.foldl addN a).length ≤ a.length + l.length
  | [], a => by simp
  | f :: r, a => by
    have := names_len r (addN a f)
    have h2 : (addN a f).length ≤ a.length + 1 := by unfold addN; split <;> simp
    rw [List.foldl_cons, List.length_cons]
    omega
theorem namesF_len (l : List Fl) : (namesF l).length ≤ l.length := by have := names_len l []; simpa [namesF] using this
theorem belowF_len (l : List Fl) (nm : ByteArray) : (belowF l nm).length ≤ l.length := by
  unfold belowF; rw [List.length_map]; exact List.length_filter_le _ _
/-- Rows of files of the call's own, one for each name, apart. -/
structure Fam (w : World) (M : Nat) (rf : ByteArray → Option Value) (gf : ByteArray → List Fl) : Prop where
  no : ∀ nm, rf nm = none → gf nm = []
  yes : ∀ nm v, rf nm = some v → gf nm ≠ [] ∧ w.ownsRow M 66 2 v (gf nm).length ((gf nm).flatMap flC)
  ap : ∀ a b va vb, rf a = some va → rf b = some vb → a ≠ b → ∀ k, va.ownBlock = some k → vb.ownBlock ≠ some k
/-- Every cell block of files stays. -/
theorem Fam.keep {w w' : World} {M : Nat} {rf : ByteArray → Option Value} {gf : ByteArray → List Fl} (h : Fam w M rf gf) (hk : ∀ (g : Nat) (c : Array Value), w.heap[g]? = some (Obj.cells c 66 (0, 0)) → w'.heap[g]? = some (Obj.cells c 66 (0, 0))) : Fam w' M rf gf :=
  ⟨h.no, fun nm v hv => ⟨(h.yes nm v hv).1, own_keep (h.yes nm v hv).2 hk⟩, h.ap⟩
theorem Fam.ext {w w' : World} {M : Nat} {rf : ByteArray → Option Value} {gf : ByteArray → List Fl} (h : Fam w M rf gf) (x : Ext w w') : Fam w' M rf gf := h.keep fun g c hg => x.keeps hg
theorem Fam.row {w : World} {M : Nat} {rf : ByteArray → Option Value} {gf : ByteArray → List Fl} (h : Fam w M rf gf) (nm : ByteArray) : w.ownsRow M 66 2 ((rf nm).getD (.slice none 0 0)) (gf nm).length ((gf nm).flatMap flC) := by
  cases hr : rf nm with
  | none => rw [h.no nm hr]; exact World.ownsRow_nil _ _ _ _
  | some v => exact (h.yes nm v hr).2
/-- One row grows by one file. -/
theorem Fam.put {w w' : World} {M : Nat} {rf : ByteArray → Option Value} {gf : ByteArray → List Fl} (h : Fam w M rf gf) (nm : ByteArray) (f : Fl) {v' : Value}
    (o : w'.ownsRow M 66 2 v' ((gf nm).length + 1) ((gf nm).flatMap flC ++ flC f)) (gr : w.grownBy w' ((rf nm).getD (.slice none 0 0)).ownBlock) (hat : v'.ownBlock = ((rf nm).getD (.slice none 0 0)).ownBlock ∨ v'.ownBlock = some w.heap.size) :
    Fam w' M (fun q => if q = nm then some v' else rf q) (fun q => if q = nm then gf nm ++ [f] else gf q) := by
  have hnew : ∀ q v, q ≠ nm → rf q = some v → ∀ k, v'.ownBlock = some k → v.ownBlock ≠ some k := fun q v hq hv k hk e => by
    rcases hat with e1 | e1
    · cases hr : rf nm with
      | none => rw [hr, hk] at e1; simp [Value.ownBlock] at e1
      | some u =>
        rw [hr, hk] at e1
        simp only [Option.getD_some] at e1
        exact h.ap q nm v u hv hr hq k e e1.symm
    · rw [hk] at e1
      cases e1
      have := ((h.yes q v hv).2.lt _ e).2
      omega
  refine ⟨fun q hq => ?_, fun q v hq => ?_, fun a b va vb ha hb hab k hk => ?_⟩
  · by_cases e : q = nm
    · simp [e] at hq
    · simp only [e, if_false] at hq ⊢
      exact h.no q hq
  · by_cases e : q = nm
    · simp only [e, if_true, Option.some.injEq] at hq ⊢
      subst hq
      exact ⟨by simp, by simpa using o⟩
    · simp only [e, if_false] at hq ⊢
      refine ⟨(h.yes q v hq).1, own_apart (h.yes q v hq).2 gr fun k hk e2 => ?_⟩
      cases hr : rf nm with
      | none => rw [hr] at hk; simp [Value.ownBlock] at hk
      | some u =>
        rw [hr] at hk
        exact h.ap q nm v u hq hr e k e2 hk
  · by_cases ea : a = nm
    · by_cases eb : b = nm
      · exact absurd (ea.trans eb.symm) hab
      · simp only [ea, if_true, Option.some.injEq, eb, if_false] at ha hb
        subst ha
        exact hnew b vb eb hb k hk
    · by_cases eb : b = nm
      · simp only [ea, if_false, eb, if_true, Option.some.injEq] at ha hb
        subst hb
        intro e
        exact hnew a va ea ha k e hk
      · simp only [ea, eb, if_false] at ha hb
        exact h.ap a b va vb ha hb hab k hk
/-- What the first loop has gathered. -/
structure Gath (w0 : World) (BR BT M : Nat) (l : List Fl) (av : Value) (w : World) : Prop where
  all : w.ownsRow M 9 1 av (namesF l).length ((namesF l).flatMap stC)
  rest : ∃ rf, OMap Tryz.prog 9 w BR l.length rf ∧ Fam w M rf (belowF l)
  text : OMap Tryz.prog 9 w BT l.length (fun nm => (textO l nm).map Value.string)
  x : Ext w0 w
  br : w0.heap.size ≤ BR ∧ BR < M
  bt : w0.heap.size ≤ BT ∧ BT < M
  ne : BR ≠ BT
  sz : M ≤ w.heap.size
theorem OMap.mono {P : Program} {k : TypeId} {w : World} {b n m : Nat} {f : ByteArray → Option Value} (h : OMap P k w b n f) (hm : n ≤ m) : OMap P k w b m f := by
  obtain ⟨D, h1, h2⟩ := h
  exact ⟨D, h1.mono hm, h2⟩
theorem Gath.ext {w0 : World} {BR BT M : Nat} {l : List Fl} {av : Value} {w w' : World} (h : Gath w0 BR BT M l av w) (x : Ext w w') : Gath w0 BR BT M l av w' := by
  obtain ⟨rf, r1, r2⟩ := h.rest
  exact ⟨ownsRow_ext h.all x, ⟨rf, r1.ext x, r2.ext x⟩, h.text.ext x, h.x.trans x, h.br, h.bt, h.ne, Nat.le_trans h.sz x.size⟩
end Go.Proofs.YtpadfabjihaapaaGreatDoor

namespace Go.Proofs.YtpadfabjihaapaaGreatDoor
open Go.RowKit
set_option linter.unusedVariables false
set_option linter.unusedSimpArgs false

theorem tySt : ∃ z, ETy Tryz.prog 76 9 z 1 16 := tyOf Tryz.underlying76 (by kernel_rfl) (by kernel_rfl) (by omega)
theorem tyFi : ∃ z, ETy Tryz.prog 22 66 z 2 32 := tyOf Tryz.underlying22 (by kernel_rfl) (by kernel_rfl) (by omega)
theorem wpl_appAt {P : Program} {t e : TypeId} {z : Value} {size bytes : Nat} (T : ETy P t e z size bytes) {w : World} {ops : Array Oper} {rest : List Oper} {o : Oper} {a : Act} {Q : Exit → Act → World → Prop} (hgd : Region.wanted o (yielded ops a.tmps) = true) (s x : Operand)
    (ho : o.op = .call { callee := .builtin .append, args := #[s, x], argTypes := #[t, t] })
    (base : Nat) (v : Value) (n : Nat) (xs : List Value) (hown : w.ownsRow base e size v n xs) (hs : a.eval s = v)
    (H : Nat) (news : List Value) (f : Nat × Nat) (hb : w.heap[H]? = some (.cells news.toArray e f)) (hl : news.length = size) (hx : a.eval x = .slice (some ⟨H, 0, none⟩) 1 1) (h1 : ∀ c ∈ news, c.oneCell' = true)
    (hlim : (n + 1) * bytes ≤ 140737488355328) (hmax : n + 1 ≤ 9223372036854775807) (hbase : base ≤ w.heap.size)
    (h : ∀ v' w', w'.ownsRow base e size v' (n + 1) (xs ++ news) → w.grownBy w' v.ownBlock → (v'.ownBlock = v.ownBlock ∨ v'.ownBlock = some w.heap.size) → wpList P ops Q rest (a.put o.dst v') w') : wpList P ops Q (o :: rest) a w :=
  wpList_wanted hgd fun K hK => wp_appAt T s x ho base v n xs hown hs H news f hb hl hx h1 hlim hmax hbase fun v' w' a1 a2 a3 => hK _ _ (h v' w' a1 a2 a3)
theorem zeroSl (w : World) : (zeroValue 22).run Tryz.prog w = .ok (.slice none 0 0) w := by
  simp
theorem flC_one1 (f : Fl) : ∀ c ∈ flC f, c.oneCell' = true := by
  intro c hc
  simp only [flC, List.mem_cons, List.not_mem_nil, or_false] at hc
  rcases hc with rfl | rfl <;> rfl
theorem gath_all {w0 : World} {BR BT M : Nat} {l : List Fl} {f : Fl} {av v' : Value} {w w' : World} (h : Gath w0 BR BT M l av w)
    (o : w'.ownsRow M 9 1 v' ((namesF l).length + 1) ((namesF l).flatMap stC ++ [.string (cutN f.path)])) (gr : w.grownBy w' av.ownBlock) (hn : hasS (namesF l) (cutN f.path) = false) :
    w'.ownsRow M 9 1 v' (addN (namesF l) f).length ((addN (namesF l) f).flatMap stC) ∧ (∃ rf, OMap Tryz.prog 9 w' BR l.length rf ∧ Fam w' M rf (belowF l)) ∧ OMap Tryz.prog 9 w' BT l.length (fun nm => (textO l nm).map Value.string) ∧ Ext w0 w' ∧ M ≤ w'.heap.size := by
  obtain ⟨rf, r1, r2⟩ := h.rest
  have hne : ∀ b, (∃ es c, w.heap[b]? = some (.map es c)) → av.ownBlock ≠ some b := fun b ⟨es, c, hb⟩ e => by
    rcases h.all.2 with ⟨rfl, _⟩ | ⟨g', cap, cur, rfl, _, hh, _⟩
    · simp [Value.ownBlock] at e
    · simp [Value.ownBlock] at e
      subst e
      rw [hh] at hb
      cases hb
  refine ⟨?_, ⟨rf, r1.grown gr (hne _ r1.block), r2.keep fun g c hg => grown_keep gr hg (own_neH h.all hg (by decide))⟩, h.text.grown gr (hne _ h.text.block), h.x.grown gr (fun k hk => by have := (h.all.lt k hk).1; have := h.br; omega), Nat.le_trans h.sz gr.size⟩
  unfold addN
  rw [hn, if_neg Bool.false_ne_true]
  simpa [stC] using o

theorem OMap.keep {P : Program} {k : TypeId} {w w' : World} {b n : Nat} {f : ByteArray → Option Value} (h : OMap P k w b n f) (hk : ∀ es c, w.heap[b]? = some (.map es c) → w'.heap[b]? = some (.map es c)) : OMap P k w' b n f := by
  obtain ⟨D, ⟨es, clock, hb, q⟩, h2⟩ := h
  exact ⟨D, ⟨es, clock, hk _ _ hb, q⟩, h2⟩
/-- The names are told; below and text are not. -/
structure Half (w0 : World) (BR BT M : Nat) (l : List Fl) (f : Fl) (av : Value) (w : World) : Prop where
  all : w.ownsRow M 9 1 av (namesF (l ++ [f])).length ((namesF (l ++ [f])).flatMap stC)
  text : OMap Tryz.prog 9 w BT l.length (fun nm => (textO l nm).map Value.string)
  x : Ext w0 w
  br : w0.heap.size ≤ BR ∧ BR < M
  bt : w0.heap.size ≤ BT ∧ BT < M
  ne : BR ≠ BT
  sz : M ≤ w.heap.size
theorem Half.below {w0 : World} {BR BT M : Nat} {l : List Fl} {f : Fl} {av : Value} {w w7 : World} (h : Half w0 BR BT M l f av w) (hw : cutW f.path = true) {rf : ByteArray → Option Value} {v6 : Value}
    (oR : OMap Tryz.prog 9 w7 BR (l.length + 1) (fun q => if q = cutN f.path then some v6 else rf q)) (fam : Fam w7 M (fun q => if q = cutN f.path then some v6 else rf q) (fun q => if q = cutN f.path then belowF l (cutN f.path) ++ [⟨cutR f.path, f.text⟩] else belowF l q))
    (o0 : ∃ es c, w.heap[BR]? = some (.map es c)) (hk : ∀ g x, w.heap[g]? = some x → (∀ c q, x ≠ .cells c 66 q) → g ≠ BR → w7.heap[g]? = some x) (x7 : Ext w0 w7) (s7 : M ≤ w7.heap.size) : Gath w0 BR BT M (l ++ [f]) av w7 := by
  refine ⟨own_keep h.all fun g c hg => hk g _ hg (fun c' q e => by injection e with _ e _; revert e; decide) (fun e => by
      subst e
      obtain ⟨es0, c0, h0⟩ := o0
      rw [h0] at hg
      cases hg), ⟨_, by simpa using oR, ?_⟩, ?_, x7, h.br, h.bt, h.ne, s7⟩
  · have e : belowF (l ++ [f]) = fun q => if q = cutN f.path then belowF l (cutN f.path) ++ [⟨cutR f.path, f.text⟩] else belowF l q := by
      funext q
      rw [belowF_snoc]
      by_cases e : q = cutN f.path
      · rw [if_pos (isBelow_iff.2 ⟨hw, e⟩), if_pos e, e]
      · rw [if_neg (fun z => e (isBelow_iff.1 z).2), if_neg e]
    rw [e]
    exact fam
  · have e : (fun nm => (textO (l ++ [f]) nm).map Value.string) = fun nm => (textO l nm).map Value.string := by
      funext q
      rw [textO_snoc, if_neg (fun z => by have := (isText_iff.1 z).1; rw [hw] at this; cases this)]
    rw [e]
    exact (h.text.keep fun es c hb => hk _ _ hb (fun c q e => by cases e) h.ne.symm).mono (by simp)
theorem Half.texts {w0 : World} {BR BT M : Nat} {l : List Fl} {f : Fl} {av : Value} {w w7 : World} (h : Half w0 BR BT M l f av w) (hw : cutW f.path = false) (hr : ∃ rf, OMap Tryz.prog 9 w BR l.length rf ∧ Fam w M rf (belowF l))
    (oT : OMap Tryz.prog 9 w7 BT (l.length + 1) (fun q => if q = cutN f.path then some (.string f.text) else (textO l q).map Value.string)) (gr : w.grownBy w7 (some BT)) : Gath w0 BR BT M (l ++ [f]) av w7 := by
  obtain ⟨rf, r1, r2⟩ := hr
  obtain ⟨es0, c0, hb0⟩ := h.text.block
  have hc : ∀ (g : Nat) (c : Array Value) (t : TypeId), w.heap[g]? = some (Obj.cells c t (0, 0)) → w7.heap[g]? = some (Obj.cells c t (0, 0)) := fun g c t hg => grown_other gr hg (fun e => by subst e; rw [hb0] at hg; cases hg)
  refine ⟨own_keep h.all fun g c hg => hc g c _ hg, ⟨rf, (r1.grown gr (fun e => h.ne (Option.some.inj e).symm)).mono (by simp), ?_⟩, ?_, h.x.grown gr (fun k hk => by cases hk; exact h.bt.1), h.br, h.bt, h.ne, Nat.le_trans h.sz gr.size⟩
  · have e : belowF (l ++ [f]) = belowF l := by
      funext q
      rw [belowF_snoc, if_neg (fun z => by have := (isBelow_iff.1 z).1; rw [hw] at this; cases this)]
    rw [e]
    exact r2.keep fun g c hg => hc g c _ hg
  · have e : (fun nm => (textO (l ++ [f]) nm).map Value.string) = fun q => if q = cutN f.path then some (.string f.text) else (textO l q).map Value.string := by
      funext q
      rw [textO_snoc]
      by_cases e : q = cutN f.path
      · rw [if_pos (isText_iff.2 ⟨hw, e⟩), if_pos e]; rfl
      · rw [if_neg (fun z => e (isText_iff.1 z).2), if_neg e]
    rw [e]
    simpa using oT

end Go.Proofs.YtpadfabjihaapaaGreatDoor

namespace Go.Proofs.YtpadfabjihaapaaGreatDoor
open Go.RowKit
set_option linter.unusedVariables false
set_option linter.unusedSimpArgs false

def bL (s : ByteArray) : List UInt8 := s.data.toList
def lB (b : List UInt8) : ByteArray := ⟨b.toArray⟩
theorem lB_bL (s : ByteArray) : lB (bL s) = s := by unfold lB bL; rw [Array.toArray_toList]
theorem bL_lB (b : List UInt8) : bL (lB b) = b := by unfold lB bL; simp
def sortN (l : List ByteArray) : List ByteArray := ((l.map bL).mergeSort fun x y => decide (x ≤ y)).map lB
theorem sortN_len (l : List ByteArray) : (sortN l).length = l.length := by unfold sortN; simp
theorem sortN_mem {l : List ByteArray} {x : ByteArray} : x ∈ sortN l ↔ x ∈ l := by
  unfold sortN
  simp only [List.mem_map, List.mem_mergeSort]
  constructor
  · rintro ⟨b, ⟨y, hy, rfl⟩, rfl⟩
    rw [lB_bL]; exact hy
  · intro h
    exact ⟨bL x, ⟨x, h, rfl⟩, lB_bL x⟩
theorem enc_st (l : List ByteArray) : (l.map bL).map encStr = l.flatMap stC := by
  induction l with
  | nil => rfl
  | cons x r ih =>
    rw [List.map_cons, List.map_cons, ih, List.flatMap_cons]
    show encStr (bL x) :: _ = [Value.string x] ++ _
    have : encStr (bL x) = .string x := by show Value.string ⟨(bL x).toArray⟩ = _; exact congrArg _ (lB_bL x)
    rw [this]; rfl
theorem enc_lB (l : List (List UInt8)) : l.map encStr = (l.map lB).flatMap stC := by
  induction l with
  | nil => rfl
  | cons x r ih =>
    rw [List.map_cons, ih, List.map_cons, List.flatMap_cons]
    rfl
theorem sortNames (w : World) (M : Nat) (v : Value) (l : List ByteArray) (h : w.ownsRow M 9 1 v l.length (l.flatMap stC)) (hl : l.length ≤ 1000000) :
    Calls Tryz.prog 52 #[v] w fun e w' => e = .returned (.tuple #[]) ∧ w'.ownsRow M 9 1 v (sortN l).length ((sortN l).flatMap stC) ∧ w.grownBy w' v.ownBlock := by
  refine Calls.mono (sortRow w M v (l.map bL) (by rw [enc_st, List.length_map]; exact h) (by simpa using hl)) ?_
  rintro e w' ⟨rfl, o, g⟩
  refine ⟨rfl, ?_, g⟩
  rw [enc_lB] at o
  rw [sortN_len]
  rw [List.length_map] at o
  exact o
def blobO (b : List UInt8) : ObjL := ⟨1, b, [], z32, [], 0, ⟨#[]⟩⟩
def treeO (es : List EntL) : ObjL := ⟨2, [], es, z32, [], 0, ⟨#[]⟩⟩
abbrev StS := List ObjL × Bool
/-- One name of a folder. -/
def stepS (rc : StS → List Fl → StS × List UInt8) (l : List Fl) (a : StS × List EntL) (nm : ByteArray) : StS × List EntL :=
  if belowF l nm = [] then (putS a.1.1 a.1.2 (blobO (bL ((textO l nm).getD ⟨#[]⟩))), a.2 ++ [⟨nm, false, idL (blobO (bL ((textO l nm).getD ⟨#[]⟩)))⟩])
  else ((rc a.1 (belowF l nm)).1, a.2 ++ [⟨nm, true, (rc a.1 (belowF l nm)).2⟩])
/-- A folder of paths of at most k names. -/
def folderS : Nat → StS → List Fl → StS × List UInt8
  | 0, st, _ => (st, z32)
  | k + 1, st, l =>
    let r := (sortN (namesF l)).foldl (stepS (folderS k) l) (st, [])
    (putS r.1.1 r.1.2 (treeO r.2), idL (treeO r.2))
theorem putS_len (os : List ObjL) (tw : Bool) (o : ObjL) : (putS os tw o).1.length ≤ os.length + 1 := by
  unfold putS; split <;> simp
def costS : Nat → Nat
  | 0 => 1
  | k + 1 => 1 + 16 * costS k
theorem costS_pos : ∀ k, 1 ≤ costS k
  | 0 => Nat.le_refl _
  | k + 1 => by unfold costS; omega
theorem folderS_len : ∀ (k : Nat) (st : StS) (l : List Fl), l.length ≤ 16 → (folderS k st l).1.1.length ≤ st.1.length + costS k
  | 0, st, l, _ => by unfold folderS; simp
  | k + 1, st, l, hl => by
    have hstep : ∀ (ns : List ByteArray) (a : StS × List EntL), (ns.foldl (stepS (folderS k) l) a).1.1.length ≤ a.1.1.length + ns.length * costS k := by
      intro ns
      induction ns with
      | nil => intro a; simp
      | cons n r ih =>
        intro a
        rw [List.foldl_cons, List.length_cons]
        have h1 := ih (stepS (folderS k) l a n)
        have h2 : (stepS (folderS k) l a n).1.1.length ≤ a.1.1.length + costS k := by
          unfold stepS
          split
          · have := putS_len a.1.1 a.1.2 (blobO (bL ((textO l n).getD ⟨#[]⟩)))
            have := costS_pos k
            simp only
            omega
          · exact folderS_len k a.1 _ (Nat.le_trans (belowF_len l n) hl)
        rw [Nat.add_mul]
        omega
    have h1 := hstep (sortN (namesF l)) (st, [])
    have h2 : (sortN (namesF l)).length ≤ 16 := by rw [sortN_len]; exact Nat.le_trans (namesF_len l) hl
    have h3 : (sortN (namesF l)).length * costS k ≤ 16 * costS k := Nat.mul_le_mul_right _ h2
    unfold folderS
    simp only
    have h4 := putS_len ((sortN (namesF l)).foldl (stepS (folderS k) l) (st, [])).1.1 ((sortN (namesF l)).foldl (stepS (folderS k) l) (st, [])).1.2 (treeO ((sortN (namesF l)).foldl (stepS (folderS k) l) (st, [])).2)
    unfold costS
    simp only at h1
    omega
end Go.Proofs.YtpadfabjihaapaaGreatDoor

namespace Go.Proofs.YtpadfabjihaapaaGreatDoor
open Go.RowKit
set_option linter.unusedVariables false
set_option linter.unusedSimpArgs false
theorem step_names (rc : StS → List Fl → StS × List UInt8) (l : List Fl) : ∀ (ns : List ByteArray) (a : StS × List EntL), (ns.foldl (stepS rc l) a).2.map EntL.name = a.2.map EntL.name ++ ns
  | [], a => by simp
  | n :: r, a => by
    rw [List.foldl_cons, step_names rc l r]
    unfold stepS
    split <;> simp
theorem entsB_of : ∀ (es : List EntL) (p : Option ByteArray), (∀ e ∈ es, nameB e.name = true) → (es.map EntL.name).Pairwise (fun a b => Op.bytesLess a.toList b.toList = true) → (∀ q, p = some q → ∀ e ∈ es, Op.bytesLess q.toList e.name.toList = true) → entsB p es = true
  | [], p, _, _, _ => by unfold entsB; cases p <;> rfl
  | e :: r, p, h1, h2, h3 => by
    rw [List.map_cons, List.pairwise_cons] at h2
    have ih := entsB_of r (some e.name) (fun x hx => h1 x (List.mem_cons_of_mem _ hx)) h2.2 (fun q hq x hx => by cases hq; exact h2.1 _ (List.mem_map_of_mem hx))
    unfold entsB
    rw [h1 e (List.mem_cons_self ..), ih]
    cases p with
    | none => rfl
    | some q => simp [h3 q rfl e (List.mem_cons_self ..)]
theorem addN_nodup : ∀ (l : List Fl) (a : List ByteArray), a.Nodup → (l.foldl addN a).Nodup
  | [], a, h => h
  | f :: r, a, h => by
    rw [List.foldl_cons]
    refine addN_nodup r _ ?_
    unfold addN
    split
    · exact h
    · rename_i hn
      rw [List.nodup_append]
      refine ⟨h, by simp, ?_⟩
      intro x hx y hy e
      subst e
      rw [List.mem_singleton.1 hy] at hx
      exact hn (hasS_iff.2 hx)
theorem namesF_nodup (l : List Fl) : (namesF l).Nodup := addN_nodup l [] List.nodup_nil
theorem sortN_rises {l : List ByteArray} (hn : l.Nodup) : (sortN l).Pairwise (fun a b => Op.bytesLess a.toList b.toList = true) := by
  have hsort : ((l.map bL).mergeSort fun x y => decide (x ≤ y)).Pairwise (· ≤ ·) := by
    have := List.pairwise_mergeSort (le := fun (x y : List UInt8) => decide (x ≤ y)) (fun a b c h1 h2 => by
      rw [decide_eq_true_eq] at *
      exact List.le_trans h1 h2) (fun a b => by
      rw [Bool.or_eq_true, decide_eq_true_eq, decide_eq_true_eq]
      exact List.le_total a b) (l.map bL)
    exact this.imp fun h => of_decide_eq_true h
  have hm : (l.map bL).Nodup := List.Pairwise.map bL (fun a b (h : a ≠ b) (e : bL a = bL b) => h (by rw [← lB_bL a, ← lB_bL b, e])) hn
  have hnd := (List.mergeSort_perm (l.map bL) fun x y => decide (x ≤ y)).nodup_iff.2 hm
  unfold sortN
  rw [List.pairwise_map]
  refine (hsort.and hnd).imp ?_
  rintro a b ⟨h1, h2⟩
  have ha : (lB a).toList = a := by rw [ByteArray.toList_eq]; exact bL_lB a
  have hb : (lB b).toList = b := by rw [ByteArray.toList_eq]; exact bL_lB b
  rw [ha, hb]
  have e1 : Op.bytesLess b a = false := by rw [bytesLess_eq]; exact decide_eq_false h1
  have e2 := bl_leqR a b
  rw [e1] at e2
  have e3 : (a == b) = false := by simpa using h2
  rw [e3] at e2
  simpa using e2
end Go.Proofs.YtpadfabjihaapaaGreatDoor

namespace Go.Proofs.YtpadfabjihaapaaGreatDoor
open Go.RowKit
set_option linter.unusedVariables false
set_option linter.unusedSimpArgs false

/-- splitter.folder does as folderS says, at paths of at most k names. -/
def FolderOk (k : Nat) : Prop := ∀ (W0 w : World) (l : List Fl) (v : Value) (h : IsF w v l) (hl : l.length ≤ 16) (hg : ∀ f ∈ l, pathN k f.path = true ∧ f.text.size ≤ 4096) (hz : k = 0 → l ≠ []) (hT : Tabs W0) (S base : Nat) (av : Nat → Prop) (os : List ObjL) (tw : Bool)
    (hs : SplW w S base av os tw) (hav : ∀ g, av g → g < w.heap.size) (hln : os.length + costS k ≤ 800000) (X : Ext W0 w) (hb : W0.heap.size ≤ base) (hS : W0.heap.size ≤ S),
    Calls Tryz.prog 28 #[Value.pointer (some ⟨S, 0, none⟩), v] w fun e w' => e = .returned (.agg ((folderS k (os, tw) l).2.map bc).toArray) ∧ SplW w' S base av (folderS k (os, tw) l).1.1 (folderS k (os, tw) l).1.2 ∧ KeepH w w' ∧ Ext W0 w'
theorem OMap.keepH {P : Program} {k : TypeId} {w w' : World} {b n : Nat} {f : ByteArray → Option Value} (h : OMap P k w b n f) (hk : KeepH w w') : OMap P k w' b n f :=
  h.keep fun es c hb => hk _ _ hb (fun c q e => by cases e) (fun c q e => by cases e)
theorem Fam.keepH {w w' : World} {M : Nat} {rf : ByteArray → Option Value} {gf : ByteArray → List Fl} (h : Fam w M rf gf) (hk : KeepH w w') : Fam w' M rf gf := h.keep fun g c hg => hk.cells hg (by decide) (by decide)
/-- What the second loop reads. -/
structure Rd2 (w0 : World) (BR BT M : Nat) (l : List Fl) (rf : ByteArray → Option Value) (nv : Value) (w : World) : Prop where
  all : w.ownsRow M 9 1 nv (sortN (namesF l)).length ((sortN (namesF l)).flatMap stC)
  rest : OMap Tryz.prog 9 w BR l.length rf
  fam : Fam w M rf (belowF l)
  text : OMap Tryz.prog 9 w BT l.length (fun nm => (textO l nm).map Value.string)
theorem Rd2.keepH {w0 : World} {BR BT M : Nat} {l : List Fl} {rf : ByteArray → Option Value} {nv : Value} {w w' : World} (h : Rd2 w0 BR BT M l rf nv w) (k : KeepH w w') : Rd2 w0 BR BT M l rf nv w' :=
  ⟨k.row h.all (by decide) (by decide), h.rest.keepH k, h.fam.keepH k, h.text.keepH k⟩
theorem Rd2.ext {w0 : World} {BR BT M : Nat} {l : List Fl} {rf : ByteArray → Option Value} {nv : Value} {w w' : World} (h : Rd2 w0 BR BT M l rf nv w) (k : Ext w w') : Rd2 w0 BR BT M l rf nv w' := h.keepH (KeepH.of_ext k)
theorem SplW.idSet {w w' : World} {S base : Nat} {av : Nat → Prop} {os : List ObjL} {tw : Bool} (h : SplW w S base av os tw) (hk : ∀ (g : Nat) (c : Array Value) (t : TypeId) (f : Nat × Nat), w.heap[g]? = some (Obj.cells c t f) → t ≠ 31 → w'.heap[g]? = some (Obj.cells c t f)) (hz : w.heap.size ≤ w'.heap.size) : SplW w' S base av os tw := by
  obtain ⟨v, ds, h1, h2, h3, h4, h5⟩ := h
  exact ⟨v, ds, h1, fun d hd => ⟨(h2 d hd).1, (h2 d hd).2.1.keep fun g c t f hg ht => hk g c t f hg (by rcases ht with rfl | rfl <;> decide), (h2 d hd).2.2⟩, own_keep h3 fun g c hg => hk g c _ _ hg (by decide), hk S _ _ _ h4 (by decide), Nat.le_trans h5 hz⟩
theorem folderS_id (k : Nat) (st : StS) (l : List Fl) : (folderS k st l).2.length = 32 := by
  cases k with
  | zero => rfl
  | succ k => exact idL_len _
theorem below_good {k : Nat} {l : List Fl} {nm : ByteArray} (hg : ∀ f ∈ l, pathN (k + 1) f.path = true ∧ f.text.size ≤ 4096) (ho : ∀ f ∈ l, flOk f) : ∀ f ∈ belowF l nm, flOk f ∧ pathN k f.path = true ∧ f.text.size ≤ 4096 := by
  intro f hf
  unfold belowF at hf
  obtain ⟨f0, h0, rfl⟩ := List.mem_map.1 hf
  obtain ⟨hm, hb⟩ := List.mem_filter.1 h0
  have hw := (isBelow_iff.1 hb).1
  obtain ⟨p1, p2⟩ := hg f0 hm
  refine ⟨⟨Nat.le_trans (cutR_size _) (ho f0 hm).1, (ho f0 hm).2⟩, ?_, p2⟩
  unfold pathN at p1
  unfold cutW at hw
  show pathN k (cutR f0.path) = true
  unfold cutR
  by_cases e : cutI f0.path = -1
  · rw [decide_eq_true e] at hw; cases hw
  · rw [if_neg e]
    unfold cutI at e ⊢
    rw [if_neg e, Bool.and_eq_true] at p1
    exact p1.2
/-- Only blocks of entries turn. -/
def KeepE (w w' : World) : Prop := ∀ (g : Nat) (x : Obj), w.heap[g]? = some x → (∀ c f, x ≠ .cells c 80 f) → w'.heap[g]? = some x
theorem KeepE.row {w w' : World} (h : KeepE w w') {base : Nat} {e : TypeId} {size : Nat} {v : Value} {n : Nat} {xs : List Value} (o : w.ownsRow base e size v n xs) (h1 : e ≠ 80) : w'.ownsRow base e size v n xs :=
  own_keep o fun g c hg => h g _ hg (fun c' f' q => by injection q with _ q _; exact h1 q)
theorem Rd2.keepE {w0 : World} {BR BT M : Nat} {l : List Fl} {rf : ByteArray → Option Value} {nv : Value} {w w' : World} (h : Rd2 w0 BR BT M l rf nv w) (k : KeepE w w') : Rd2 w0 BR BT M l rf nv w' :=
  ⟨k.row h.all (by decide), h.rest.keep fun es c hb => k _ _ hb (fun c q e => by cases e), h.fam.keep fun g c hg => k _ _ hg (fun c' f' q => by injection q with _ q _; revert q; decide), h.text.keep fun es c hb => k _ _ hb (fun c q e => by cases e)⟩
/-- The names are sorted. -/
theorem Gath.sorted {w0 : World} {BR BT M : Nat} {l : List Fl} {av : Value} {w w' : World} (h : Gath w0 BR BT M l av w) (o : w'.ownsRow M 9 1 av (sortN (namesF l)).length ((sortN (namesF l)).flatMap stC)) (g : w.grownBy w' av.ownBlock) :
    ∃ rf, Rd2 w0 BR BT M l rf av w' ∧ Ext w0 w' ∧ M ≤ w'.heap.size := by
  obtain ⟨rf, r1, r2⟩ := h.rest
  have hne : ∀ b, (∃ es c, w.heap[b]? = some (.map es c)) → av.ownBlock ≠ some b := fun b ⟨es, c, hb⟩ e => by
    rcases h.all.2 with ⟨rfl, _⟩ | ⟨g', cap, cur, rfl, _, hh, _⟩
    · simp [Value.ownBlock] at e
    · simp [Value.ownBlock] at e
      subst e
      rw [hh] at hb
      cases hb
  exact ⟨rf, ⟨o, r1.grown g (hne _ r1.block), r2.keep fun g' c hg => grown_keep g hg (own_neH h.all hg (by decide)), h.text.grown g (hne _ h.text.block)⟩,
    h.x.grown g (fun k hk => by have := (h.all.lt k hk).1; have := h.br; omega), Nat.le_trans h.sz g.size⟩

theorem at_convS (src dst : TypeId) (x : Operand) {P : Program} {ops : Array Oper} {rest : List Oper} {d : Option Tmp} {t : TypeId} {pos : String} {after : Array Edge} {gd : Option (Nat × Bool)} {a : Act} {w : World} {Q : Exit → Act → World → Prop}
    (h : wpList P ops Q ({ dst := d, op := .convert src dst x, type := t, pos := pos, after := after, guard := gd } :: rest) a w) : wpList P ops Q ({ dst := d, op := .convert src dst x, type := t, pos := pos, after := after, guard := gd } :: rest) a w := h
theorem wpl_strRow {P : Program} {ops : Array Oper} {rest : List Oper} {o : Oper} {a : Act} {w : World} {Q : Exit → Act → World → Prop} (hgd : Region.wanted o (yielded ops a.tmps) = true) (src dst : TypeId) (x : Operand) (ho : o.op = .convert src dst x) (s : ByteArray) (hx : a.eval x = .string s)
    (hs : P.underlying src = some .string) (hd : P.underlying dst = some (.slice 5)) (he : P.underlying 5 = some (.int .u8)) (hl : s.size ≤ 9223372036854775807)
    (h : ∀ cap w', RowT w' (.slice (some ⟨w.heap.size, 0, none⟩) s.size cap) s.data.toList → Ext w w' → wpList P ops Q rest (a.put o.dst (.slice (some ⟨w.heap.size, 0, none⟩) s.size cap)) w') : wpList P ops Q (o :: rest) a w :=
  wpList_wanted hgd fun K hK => by
    unfold Oper.wp execOp
    simp only [ho, hx, Sem.run_bind, run_bytes_of_string w src dst 5 s hs hd he, Result.andThen_ok]
    have hsz : s.data.toList.length = s.size := by rw [Array.length_toList]; rfl
    refine hK _ _ (h _ _ ⟨?_, fun g hg => ?_⟩ (((Ext.refl w).drew).alloc _))
    · refine ⟨by simp, some ⟨w.heap.size, 0, none⟩, _, by rw [hsz], by rw [hsz]; exact grownCap_ge w s.size 0 _, grownCap_le_maxLen w s.size 0 _ hl, (fun h => by cases h), fun i hi => ⟨_, 0, rfl, ?_⟩⟩
      have hi' : i < s.data.size := by simpa using hi
      have hc : (w.drew.alloc (.cells (bytesRow s (grownCap w s.size 0 5)) 5 ((bytesRow s (grownCap w s.size 0 5)).size, (bytesRow s (grownCap w s.size 0 5)).size + 1))).cell? ⟨w.heap.size, i, none⟩ = _ := block_cell (heap_alloc_new w.drew _) i
      rw [Nat.zero_add, hc, bytesRow_at s _ i hi']
      simp only [List.getElem?_map, Array.getElem?_toList]
      rw [Array.getElem?_eq_getElem hi']
      rfl
    · simp only [Value.ownBlock, Option.some.injEq] at hg
      subst hg
      exact ⟨_, _, heap_alloc_new w.drew _⟩
theorem zeroSt (w : World) : (zeroValue 9).run Tryz.prog w = .ok (.string ⟨#[]⟩) w := by simp
theorem text_of {l : List Fl} (hg : ∀ f ∈ l, f.text.size ≤ 4096) (nm : ByteArray) : ((textO l nm).getD ⟨#[]⟩).size ≤ 4096 := by
  cases h : textO l nm with
  | none => exact Nat.zero_le _
  | some t =>
    unfold textO at h
    rw [Option.map_eq_some_iff] at h
    obtain ⟨f, hf, rfl⟩ := h
    exact hg f (List.mem_filter.1 (List.mem_of_getLast? hf)).1
theorem chk_blob {b : List UInt8} (h : b.length ≤ 4096) : checkB (blobO b) = true := by
  have h1 : plainB (blobO b) = true := by show plainB (blobO []) = true; decide +kernel
  have h2 : headB (blobO b) = true := by
    show (decide ((b.length : Int) ≤ 4096) && decide (((0 : Nat) : Int) ≤ 32) && decide (((0 : Nat) : Int) ≤ 2) && decide (((0 : Nat) : Int) ≤ 200)) = true
    rw [decide_eq_true (show (b.length : Int) ≤ 4096 by omega)]
    decide
  unfold checkB
  rw [h1, h2]
  rfl
theorem ok_blob {b : List UInt8} (h : b.length ≤ 4096) : ObjOk (blobO b) := ⟨⟨by show (-9223372036854775808 : Int) ≤ 1; omega, by show (1 : Int) ≤ _; omega⟩, by show b.length ≤ _; omega, (fun e he => by cases he), Nat.zero_le _, rfl, (fun e he => by cases he), Nat.zero_le _, by show 0 < 4294967296; omega, Nat.zero_le _⟩

theorem ent_set (nm : ByteArray) (fo : Bool) (a b : List UInt8) (h : a.length = b.length) : setFrom (entC ⟨nm, fo, a⟩).toArray 2 (b.map bc) = (entC ⟨nm, fo, b⟩).toArray := by
  have := setFrom_mid (b.map bc) (a.map bc) [.string nm, .bool fo] [] (by simp [h])
  simpa [entC] using this
theorem tyEn : ∃ z, ETy Tryz.prog 41 80 z 34 56 := tyOf Tryz.underlying41 infoEnt (by kernel_rfl) (by omega)
theorem build_en (w : World) (e : EntL) (h : EntOk e) : (Instr.buildSlice 41 1 #[(0, .agg (entC e).toArray)]).run Tryz.prog w = .ok (.slice (some ⟨w.heap.size, 0, none⟩) 1 1) (w.alloc (.cells (entC e).toArray 80)) :=
  build_one w _ _ 34 Tryz.underlying41 infoEnt (by omega) (by omega) (entC e) (entC_len h)
theorem there_ent {w : World} {b : Nat} {c : List Value} (h : w.heap[b]? = some (.cells c.toArray 80 (0, 0))) (hc : c.length = 34) : w.there b 2 32 := by
  intro j hj
  refine ⟨?_, block_free h _⟩
  rw [block_cell h]
  rw [List.getElem?_toArray, List.getElem?_eq_getElem (by omega)]
  rfl
theorem one_en (e : EntL) : ∀ c ∈ entC e, c.oneCell' = true := by
  intro v hv
  simp only [entC, List.mem_cons] at hv
  rcases hv with rfl | rfl | hv
  · rfl
  · rfl
  · exact bc_one _ _ hv
/-- The second loop's state behind some names. -/
structure F2 (W0 w w1 : World) (S base : Nat) (av : Nat → Prop) (G BR BT M : Nat) (l : List Fl) (rf : ByteArray → Option Value) (nv ev : Value) (A : StS × List EntL) (wr : World) : Prop where
  rd : Rd2 w1 BR BT M l rf nv wr
  sp : SplW wr S base (fun g => av g ∨ ev.ownBlock = some g) A.1.1 A.1.2
  en : wr.ownsRow M 80 34 ev A.2.length (A.2.flatMap entC)
  ok : ∀ e ∈ A.2, EntOk e
  kh : KeepH w wr
  br : wr.heap[G]? = some (.cells (z32.map bc).toArray 31 (0, 0))
  x0 : Ext W0 wr
  sz : M ≤ wr.heap.size
theorem F2.ext {W0 w w1 : World} {S base : Nat} {av : Nat → Prop} {G BR BT M : Nat} {l : List Fl} {rf : ByteArray → Option Value} {nv ev : Value} {A : StS × List EntL} {wr w' : World} (h : F2 W0 w w1 S base av G BR BT M l rf nv ev A wr) (x : Ext wr w') : F2 W0 w w1 S base av G BR BT M l rf nv ev A w' :=
  ⟨h.rd.ext x, h.sp.ext x, ownsRow_ext h.en x, h.ok, h.kh.trans (KeepH.of_ext x), x.keeps h.br, h.x0.trans x, Nat.le_trans h.sz x.size⟩
theorem names_from : ∀ (l : List Fl) (a : List ByteArray) (x : ByteArray), x ∈ l.foldl addN a → x ∈ a ∨ ∃ f ∈ l, cutN f.path = x
  | [], a, x, h => .inl h
  | f :: r, a, x, h => by
    rw [List.foldl_cons] at h
    rcases names_from r _ x h with q | ⟨g, hg, e⟩
    · unfold addN at q
      split at q
      · exact .inl q
      · rcases List.mem_append.1 q with q | q
        · exact .inl q
        · exact .inr ⟨f, List.mem_cons_self .., (List.mem_singleton.1 q).symm⟩
    · exact .inr ⟨g, List.mem_cons_of_mem _ hg, e⟩
theorem cutN_name : ∀ {k : Nat} {s : ByteArray}, pathN k s = true → nameB (cutN s) = true
  | 0, s, h => by cases h
  | k + 1, s, h => by
    unfold pathN at h
    unfold cutN cutI
    by_cases e : Lib.indexByte s.data.toList 47 = -1
    · rw [if_pos e] at h ⊢; exact h
    · rw [if_neg e, Bool.and_eq_true] at h; rw [if_neg e]; exact h.1
/-- A folder's object may be. -/
theorem chk_tree {k : Nat} {l : List Fl} (hg : ∀ f ∈ l, pathN k f.path = true) (hl : l.length ≤ 16) {es : List EntL} (he : es.map EntL.name = sortN (namesF l)) : checkB (treeO es) = true := by
  have h1 : plainB (treeO es) = true := by show plainB (treeO []) = true; decide +kernel
  have hlen : es.length ≤ 16 := by
    have := congrArg List.length he
    rw [List.length_map, sortN_len] at this
    have := namesF_len l
    omega
  have h2 : headB (treeO es) = true := by
    show (decide (((0 : Nat) : Int) ≤ 4096) && decide ((es.length : Int) ≤ 32) && decide (((0 : Nat) : Int) ≤ 2) && decide (((0 : Nat) : Int) ≤ 200)) = true
    rw [decide_eq_true (show (es.length : Int) ≤ 32 by omega)]
    decide
  have h3 : entsB none es = true := by
    refine entsB_of es none (fun e hm => ?_) (by rw [he]; exact sortN_rises (namesF_nodup l)) (fun q hq => by cases hq)
    have : e.name ∈ sortN (namesF l) := by rw [← he]; exact List.mem_map_of_mem hm
    rw [sortN_mem] at this
    rcases names_from l [] _ this with q | ⟨f, hf, e2⟩
    · cases q
    · rw [← e2]; exact cutN_name (hg f hf)
  unfold checkB
  rw [h1, h2]
  exact h3
set_option maxRecDepth 1000000 in
theorem info_ent {e : EntL} (h : EntOk e) : (Tryz.prog.info? 80).map (·.size) = some (entC e).toArray.size := by
  have : (entC e).toArray.size = 34 := by rw [List.size_toArray]; exact entC_len h
  exact (show (Tryz.prog.info? 80).map (·.size) = some 34 from by kernel_rfl).trans (by rw [this])
theorem one_ent (e : EntL) : (entC e).toArray.all (·.oneCell') = true := by
  rw [Array.all_eq_true_iff_forall_mem]
  intro v hv
  have hv : v ∈ entC e := by simpa using hv
  simp only [entC, List.mem_cons] at hv
  rcases hv with rfl | rfl | hv
  · rfl
  · rfl
  · exact bc_one _ _ hv

set_option maxHeartbeats 20000000 in
set_option maxRecDepth 100000 in
theorem folderStep (k : Nat) (ih : FolderOk k) : FolderOk (k + 1) := by
  intro W0 w l v h hl16 hgood _ hT0 S base av os tw hs hav hln X hb hS
  have hT := hT0.ext X
  have HT0 := Lib.hid hT0
  have hl : l.length ≤ 100 := by omega
  have HGOOD := Lib.hid hgood
  obtain ⟨R, hR⟩ : ∃ R, folderS (k + 1) (os, tw) l = R := ⟨_, rfl⟩
  rw [hR]
  have HR := Lib.hid hR
  have HIH := Lib.hid ih
  clear hR hgood ih
  obtain ⟨zS, tyS⟩ := tySt
  obtain ⟨zF, tyF⟩ := tyFi
  obtain ⟨ao, cap, rfl, b1, m1, z1, g1⟩ := h.opened
  have HOK := Lib.hid h.ok
  have HS := Lib.hid hs
  have HT := Lib.hid hT
  have HG := Lib.hid g1
  have hmm := @run_makeMap Tryz.prog
  clear h hs hT g1 z1
  go_enter Tryz.func28, Tryz.ntmps28
  go_upto_region 2 with fail
  generalize hG : w.heap.size = G at *
  refine wp_forgetH (fun W => Ext w W ∧ W.heap[G]? = some (.cells (z32.map bc).toArray 31 (0, 0))) ⟨(Ext.refl w).alloc _, blk_new hG⟩ ?_
  rintro w1 ⟨x1, bR⟩
  go_upto_region 3 with fail
  obtain ⟨BR, hBR⟩ : ∃ BR, w1.heap.size = BR := ⟨_, rfl⟩
  refine wp_forgetH (fun W => Ext w1 W ∧ OMap Tryz.prog 9 W BR 0 (fun _ => none) ∧ W.heap.size = BR + 1) ⟨(Ext.refl w1).alloc _, by rw [← hBR]; exact OMap.made w1, by simp [hBR]⟩ ?_
  rintro w2 ⟨x2, oR, hs2⟩
  rw [hBR]
  go_upto_region 5 with fail
  refine wp_forgetH (fun W => Ext w2 W ∧ OMap Tryz.prog 9 W (BR + 1) 0 (fun _ => none) ∧ W.heap.size = BR + 2) ⟨(Ext.refl w2).alloc _, by rw [← hs2]; exact OMap.made w2, by simp [hs2]⟩ ?_
  rintro w3 ⟨x3, oT, hs3⟩
  have hbr : w1.heap.size ≤ BR := by omega
  obtain ⟨M, hM⟩ : ∃ M, w3.heap.size = M := ⟨_, rfl⟩
  have X3 := (x1.trans x2).trans x3
  have g0 : Gath w1 BR (BR + 1) M [] (.slice none 0 0) w3 :=
    ⟨World.ownsRow_nil _ _ _ _, ⟨fun _ => none, oR.ext x3, ⟨fun _ _ => rfl, (fun nm v hv => by cases hv), (fun a b va vb ha => by cases ha)⟩⟩, oT, x2.trans x3, by omega, by omega, by omega, by omega⟩
  clear hmm oR oT hs2 x2 x3
  go_wp2_with fail
  go_loopg [8, 23] l.length (fun g s8 s23 wr => ∃ (i : Nat) (av : Value), i ≤ l.length ∧ l.length - i ≤ g ∧ s23 = .int .i64 (i : Int) ∧ s8 = av ∧ Gath w1 BR (BR + 1) M (l.take i) av wr)
  case atStart => exact ⟨0, _, Nat.zero_le _, by omega, rfl, rfl, g0⟩
  case round =>
  obtain ⟨i, av, hi, hg, rfl, rfl, L⟩ := hrel
  by_cases hlt : i < l.length
  · obtain ⟨pb, o, rfl, e0, e1⟩ := HG.out i hlt
    have X1r := L.x
    have e0 := (x1.trans X1r).cell e0
    have e1 := (x1.trans X1r).cell e1
    have hok := HOK.out l[i] (List.getElem_mem hlt)
    have htk : l.take (i + 1) = l.take i ++ [l[i]] := by rw [List.take_succ_eq_append_getElem hlt]
    have hlk : (l.take i).length = i := by simp; omega
    generalize l[i] = f at *
    generalize l.take i = lk at *
    have HTK := Lib.hid htk
    have HL := Lib.hid L
    have i0 : (0 : Int) ≤ (i : Int) := Int.natCast_nonneg _
    have i1 : (i : Int) < (l.length : Int) := by omega
    clear htk L
    go_upto_region 8 with fail
    obtain ⟨BX, hBX⟩ : ∃ BX, wr.heap.size = BX := ⟨_, rfl⟩
    refine wp_forgetH (fun W => Ext wr W ∧ W.heap[BX]? = some (.cells #[.string f.path, .string f.text] 66 (0, 0))) ⟨(Ext.refl wr).alloc _, blk_new hBX⟩ ?_
    rintro w4 ⟨x4, bX⟩
    rw [hBX]
    have L4 := HL.out.ext x4
    have hcx := block_allH bX
    have hN := cutN_size f.path
    have hNs : (cutN f.path).size ≤ maxLen := by have := hok.1; unfold maxLen; omega
    have hRs := cutR_size f.path
    have HL4 := Lib.hid L4
    clear L4 x4 e0 e1 X1r
    go_wp2_with fail
    refine Calls.mono (strCut _ f.path hok.1) ?_
    rintro e w4a ⟨rfl, x4a⟩
    rw [cutV_eq]
    have L4 := HL4.out.ext x4a
    have HL4 := Lib.hid L4
    have hss : IsSs w4a u8 (namesF lk) := ⟨IsSl.of_owns L4.all⟩
    have HSS := Lib.hid hss
    have bX := x4a.keeps bX
    clear L4 hss hcx x4a
    go_wp2_with fail
    refine Calls.mono (containsStr _ _ _ HSS.out (cutN f.path)) ?_
    rintro e w4b ⟨rfl, x4b⟩
    have L4 := HL4.out.ext x4b
    have b5 := x4b.keeps bX
    have HL4 := Lib.hid L4
    clear L4 x4b HSS bX
    have hnl := namesF_len lk
    cases hn : hasS (namesF lk) (cutN f.path) with
    | true =>
      obtain ⟨w5, rfl⟩ : ∃ x, x = w4b := ⟨_, rfl⟩
      have hA : namesF (lk ++ [f]) = namesF lk := by rw [namesF_snoc]; unfold addN; rw [if_pos hn]
      have AA := HL4.out.all
      have RR := HL4.out.rest
      have TT := HL4.out.text
      have XX := HL4.out.x
      have SZ := HL4.out.sz
      have HH5 := Lib.hid (show Half w1 BR (BR + 1) M lk f u8 w5 from ⟨by rw [hA]; exact AA, TT, XX, HL4.out.br, HL4.out.bt, HL4.out.ne, SZ⟩)
      clear AA hA hn HL4
      cases hw : cutW f.path with
      | true =>
        obtain ⟨rf, oR, fam⟩ := RR
        have HB0 := Lib.hid oR.block
        have hlook := oR.look Tryz.underlying9 Tryz.underlying102 (zeroSl w5) (cutN f.path) hNs
        have own7 := fam.row (cutN f.path)
        obtain ⟨a7, c7, e7⟩ := ownSh own7
        rw [e7] at hlook own7
        have hbl := belowF_len lk (cutN f.path)
        have xa : Ext w5 (w5.alloc (.cells #[.string (cutR f.path), .string f.text] 66)) := (Ext.refl w5).alloc _
        have ownA := ownsRow_ext own7 xa
        have hbA := heap_alloc_new w5 (.cells #[.string (cutR f.path), .string f.text] 66)
        have hMA : M ≤ (w5.alloc (.cells #[.string (cutR f.path), .string f.text] 66)).heap.size := by have := xa.size; omega
        have hneR : (Value.slice a7 (belowF lk (cutN f.path)).length c7).ownBlock ≠ some BR := by
          obtain ⟨es, cc, hb⟩ := (oR.ext xa).block
          intro e
          rcases ownA.2 with ⟨q, _⟩ | ⟨g', cap', cur, q, _, hh, _⟩
          · rw [q] at e; simp [Value.ownBlock] at e
          · rw [q] at e; simp [Value.ownBlock] at e; subst e; rw [hh] at hb; cases hb
        have HFAM := Lib.hid fam
        have HRF := Lib.hid oR
        have HOA := Lib.hid ownA
        have HE7 := Lib.hid e7
        have hcx := block_allH b5
        clear fam own7 oR ownA e7
        go_wp2_with (first
          | (at_builtin; refine wpl_appAt tyF (by rfl) (.tmp 47) (.tmp 52) rfl M (.slice a7 (belowF lk (cutN f.path)).length c7) (belowF lk (cutN f.path)).length _ HOA.out (by rfl) w5.heap.size (flC ⟨cutR f.path, f.text⟩) (0, 0) hbA rfl (by rfl) (flC_one1 _) (by omega) (by omega) hMA ?_; intro v6 w6 own6 gr6 at6; have oR6 := (HRF.out.ext xa).grown gr6 hneR)
          | (at_mapUpdate; refine wpl_omPut rfl (.tmp 43) (.tmp 44) (.tmp 53) 102 rfl Tryz.underlying9 Tryz.underlying102 oR6 (by unfold maxLen; omega) (by rfl) (cutN f.path) hNs v6 (by rfl) (by rfl) ?_; intro w7 oR7 gr7))
        have hF6 := HFAM.out.ext xa
        have hF6 := hF6.put (w' := w6) (cutN f.path) ⟨cutR f.path, f.text⟩ (v' := v6) (by simpa using own6) (by rw [HE7.out]; exact gr6) (by rw [HE7.out]; exact at6)
        have hk7 : ∀ g x, w5.heap[g]? = some x → (∀ c q, x ≠ .cells c 66 q) → g ≠ BR → w7.heap[g]? = some x := fun g x hg hx hne => grown_other gr7 (grown_keep gr6 (xa.keeps hg) (fun e => by
          rcases HOA.out.2 with ⟨q, _⟩ | ⟨g', cap', cur, q, _, hh, _⟩
          · rw [q] at e; simp [Value.ownBlock] at e
          · rw [q] at e; simp [Value.ownBlock] at e; subst e; rw [xa.keeps hg] at hh; exact hx _ _ (Option.some.inj hh))) hne
        have x7 : Ext w1 w7 := ((XX.trans xa).grown gr6 (fun k hk => by have := (HOA.out.lt k hk).1; omega)).grown gr7 (fun k hk => by cases hk; omega)
        have s7 : M ≤ w7.heap.size := by have := xa.size; have := gr6.size; have := gr7.size; omega
        have HF6 := Lib.hid hF6
        have HW := Lib.hid hw
        have hmap : ∀ g c, w6.heap[g]? = some (Obj.cells c 66 (0, 0)) → w7.heap[g]? = some (Obj.cells c 66 (0, 0)) := fun g c hg => grown_other gr7 hg (fun e => by subst e; obtain ⟨es, cc, hb⟩ := oR6.block; rw [hb] at hg; cases hg)
        have HMP := Lib.hid hmap
        have HK7 := Lib.hid hk7
        clear hmap hk7 hF6
        go_roundg (l.length - (i + 1))
        case measure => omega
        case rel => exact ⟨i + 1, u8, by omega, by omega, by go_num, rfl, by rw [HTK.out]; exact HH5.out.below HW.out oR7 (HF6.out.keep HMP.out) HB0.out HK7.out x7 s7⟩
      | false =>
        have hcx := block_allH b5
        have hTx := Lib.hid TT
        clear TT
        go_wp2_with (at_mapUpdate; refine wpl_omPut rfl (.tmp 54) (.tmp 55) (.tmp 57) 103 rfl Tryz.underlying9 Tryz.underlying103 hTx.out (by unfold maxLen; omega) (by rfl) (cutN f.path) hNs (.string f.text) (by rfl) (by rfl) ?_; intro w7 oT7 gr7)
        have HW := Lib.hid hw
        go_roundg (l.length - (i + 1))
        case measure => omega
        case rel => exact ⟨i + 1, u8, by omega, by omega, by go_num, rfl, by rw [HTK.out]; exact HH5.out.texts HW.out RR oT7 gr7⟩

    | false =>
      have xs : Ext w4b (w4b.alloc (.cells #[.string (cutN f.path)] 9)) := (Ext.refl w4b).alloc _
      have Ls := HL4.out.ext xs
      have hbS := heap_alloc_new w4b (.cells #[.string (cutN f.path)] 9)
      have b5s := xs.keeps b5
      have HLs := Lib.hid Ls
      have hMs : M ≤ (w4b.alloc (.cells #[.string (cutN f.path)] 9)).heap.size := Ls.sz
      have HN := Lib.hid hn
      clear Ls hn
      go_upto_region 11 with (at_builtin; refine wpl_appAt tyS (by rfl) (.tmp 38) (.tmp 40) rfl M u8 (namesF lk).length _ HLs.out.all (by rfl) w4b.heap.size [.string (cutN f.path)] (0, 0) hbS rfl (by rfl) (by intro c hc; simp at hc; subst hc; rfl) (by omega) (by omega) hMs ?_; intro v9 w9 own9 gr9 at9)
      have GA := gath_all HLs.out own9 gr9 HN.out
      have b5 : w9.heap[BX]? = some (.cells #[.string f.path, .string f.text] 66 (0, 0)) := grown_keep gr9 b5s (own_neH HLs.out.all b5s (by decide))
      obtain ⟨w5, rfl⟩ : ∃ x, x = w9 := ⟨_, rfl⟩
      obtain ⟨AA, RR, TT, XX, SZ⟩ := GA
      have HH5 := Lib.hid (show Half w1 BR (BR + 1) M lk f v9 w5 from ⟨by rw [namesF_snoc]; exact AA, TT, XX, HLs.out.br, HLs.out.bt, HLs.out.ne, SZ⟩)
      clear AA own9 gr9 at9 b5s hbS hMs HLs xs HL4
      cases hw : cutW f.path with
      | true =>
        obtain ⟨rf, oR, fam⟩ := RR
        have HB0 := Lib.hid oR.block
        have hlook := oR.look Tryz.underlying9 Tryz.underlying102 (zeroSl w5) (cutN f.path) hNs
        have own7 := fam.row (cutN f.path)
        obtain ⟨a7, c7, e7⟩ := ownSh own7
        rw [e7] at hlook own7
        have hbl := belowF_len lk (cutN f.path)
        have xa : Ext w5 (w5.alloc (.cells #[.string (cutR f.path), .string f.text] 66)) := (Ext.refl w5).alloc _
        have ownA := ownsRow_ext own7 xa
        have hbA := heap_alloc_new w5 (.cells #[.string (cutR f.path), .string f.text] 66)
        have hMA : M ≤ (w5.alloc (.cells #[.string (cutR f.path), .string f.text] 66)).heap.size := by have := xa.size; omega
        have hneR : (Value.slice a7 (belowF lk (cutN f.path)).length c7).ownBlock ≠ some BR := by
          obtain ⟨es, cc, hb⟩ := (oR.ext xa).block
          intro e
          rcases ownA.2 with ⟨q, _⟩ | ⟨g', cap', cur, q, _, hh, _⟩
          · rw [q] at e; simp [Value.ownBlock] at e
          · rw [q] at e; simp [Value.ownBlock] at e; subst e; rw [hh] at hb; cases hb
        have HFAM := Lib.hid fam
        have HRF := Lib.hid oR
        have HOA := Lib.hid ownA
        have HE7 := Lib.hid e7
        have hcx := block_allH b5
        clear fam own7 oR ownA e7
        go_wp2_with (first
          | (at_builtin; refine wpl_appAt tyF (by rfl) (.tmp 47) (.tmp 52) rfl M (.slice a7 (belowF lk (cutN f.path)).length c7) (belowF lk (cutN f.path)).length _ HOA.out (by rfl) w5.heap.size (flC ⟨cutR f.path, f.text⟩) (0, 0) hbA rfl (by rfl) (flC_one1 _) (by omega) (by omega) hMA ?_; intro v6 w6 own6 gr6 at6; have oR6 := (HRF.out.ext xa).grown gr6 hneR)
          | (at_mapUpdate; refine wpl_omPut rfl (.tmp 43) (.tmp 44) (.tmp 53) 102 rfl Tryz.underlying9 Tryz.underlying102 oR6 (by unfold maxLen; omega) (by rfl) (cutN f.path) hNs v6 (by rfl) (by rfl) ?_; intro w7 oR7 gr7))
        have hF6 := HFAM.out.ext xa
        have hF6 := hF6.put (w' := w6) (cutN f.path) ⟨cutR f.path, f.text⟩ (v' := v6) (by simpa using own6) (by rw [HE7.out]; exact gr6) (by rw [HE7.out]; exact at6)
        have hk7 : ∀ g x, w5.heap[g]? = some x → (∀ c q, x ≠ .cells c 66 q) → g ≠ BR → w7.heap[g]? = some x := fun g x hg hx hne => grown_other gr7 (grown_keep gr6 (xa.keeps hg) (fun e => by
          rcases HOA.out.2 with ⟨q, _⟩ | ⟨g', cap', cur, q, _, hh, _⟩
          · rw [q] at e; simp [Value.ownBlock] at e
          · rw [q] at e; simp [Value.ownBlock] at e; subst e; rw [xa.keeps hg] at hh; exact hx _ _ (Option.some.inj hh))) hne
        have x7 : Ext w1 w7 := ((XX.trans xa).grown gr6 (fun k hk => by have := (HOA.out.lt k hk).1; omega)).grown gr7 (fun k hk => by cases hk; omega)
        have s7 : M ≤ w7.heap.size := by have := xa.size; have := gr6.size; have := gr7.size; omega
        have HF6 := Lib.hid hF6
        have HW := Lib.hid hw
        have hmap : ∀ g c, w6.heap[g]? = some (Obj.cells c 66 (0, 0)) → w7.heap[g]? = some (Obj.cells c 66 (0, 0)) := fun g c hg => grown_other gr7 hg (fun e => by subst e; obtain ⟨es, cc, hb⟩ := oR6.block; rw [hb] at hg; cases hg)
        have HMP := Lib.hid hmap
        have HK7 := Lib.hid hk7
        clear hmap hk7 hF6
        go_roundg (l.length - (i + 1))
        case measure => omega
        case rel => exact ⟨i + 1, v9, by omega, by omega, by go_num, rfl, by rw [HTK.out]; exact HH5.out.below HW.out oR7 (HF6.out.keep HMP.out) HB0.out HK7.out x7 s7⟩
      | false =>
        have hcx := block_allH b5
        have hTx := Lib.hid TT
        clear TT
        go_wp2_with (at_mapUpdate; refine wpl_omPut rfl (.tmp 54) (.tmp 55) (.tmp 57) 103 rfl Tryz.underlying9 Tryz.underlying103 hTx.out (by unfold maxLen; omega) (by rfl) (cutN f.path) hNs (.string f.text) (by rfl) (by rfl) ?_; intro w7 oT7 gr7)
        have HW := Lib.hid hw
        go_roundg (l.length - (i + 1))
        case measure => omega
        case rel => exact ⟨i + 1, v9, by omega, by omega, by go_num, rfl, by rw [HTK.out]; exact HH5.out.texts HW.out RR oT7 gr7⟩

  · have e : i = l.length := by omega
    rw [e, List.take_length] at L
    have hnl := namesF_len l
    have HL := Lib.hid L
    clear L e g0
    go_wp2_with fail
    refine Calls.mono (sortNames _ M u8 (namesF l) HL.out.all (by omega)) ?_
    rintro e w6 ⟨rfl, own6, gr6⟩
    obtain ⟨rf, rd6, x6, s6⟩ := HL.out.sorted own6 gr6
    obtain ⟨NS, hNS⟩ : ∃ NS, sortN (namesF l) = NS := ⟨_, rfl⟩
    have sp6 := (HS.out.ext (x1.trans x6)).less (av' := fun g => av g ∨ (Value.slice none 0 0).ownBlock = some g) (fun g h => by rcases h with h | h; exact h; simp [Value.ownBlock] at h)
    have hmem : ∀ nm ∈ NS, nm.size ≤ 140737488355328 := fun nm hm => by
      rw [← hNS, sortN_mem] at hm
      rcases names_from l [] nm hm with q | ⟨f, hf, rfl⟩
      · cases q
      · exact Nat.le_trans (cutN_size _) (HOK.out f hf).1
    have hNl : NS.length ≤ 16 := by rw [← hNS, sortN_len]; omega
    obtain ⟨a8, c8, e8⟩ := ownSh rd6.all
    rw [hNS] at e8
    subst e8
    have hcap := (sl_cap (IsSl.of_owns rd6.all))
    rw [hNS] at hcap
    obtain ⟨_, cc1, cc2⟩ := hcap
    have f0 : F2 W0 w w1 S base av G BR (BR + 1) M l rf (.slice a8 NS.length c8) (.slice none 0 0) ((os, tw), []) w6 :=
      ⟨rd6, sp6, World.ownsRow_nil _ _ _ _, (fun e he => by cases he), KeepH.of_ext (x1.trans x6), x6.keeps bR, X.trans (x1.trans x6), s6⟩
    have HF0 := Lib.hid f0
    have HNS := Lib.hid hNS
    have HMEM := Lib.hid hmem
    clear rd6 sp6 f0 hmem hNS own6 gr6 x6
    go_wp2_with fail
    obtain ⟨w7, rfl⟩ : ∃ x, x = w6 := ⟨_, rfl⟩
    go_loopg [5, 63] NS.length (fun g s5 s63 wr => ∃ (j : Nat) (ev : Value) (A : StS × List EntL), j ≤ NS.length ∧ NS.length - j ≤ g ∧ s63 = .int .i64 (j : Int) ∧ s5 = ev ∧ A.1.1.length ≤ os.length + j * costS k ∧ A.2.length ≤ j ∧ A = (NS.take j).foldl (stepS (folderS k) l) ((os, tw), []) ∧ F2 W0 w w1 S base av G BR (BR + 1) M l rf (.slice a8 NS.length c8) ev A wr)
    case atStart => exact ⟨0, _, ((os, tw), []), Nat.zero_le _, by omega, rfl, rfl, by simp, Nat.le_refl 0, rfl, HF0.out⟩
    case round =>
    obtain ⟨j, ev, A, hj, hg2, rfl, rfl, hAl, hAk, hA, L⟩ := hrel
    by_cases hjl : j < NS.length
    · have hra := L.rd.all
      rw [HNS.out] at hra
      obtain ⟨pb2, o2, rfl, hcn⟩ := ss_at (IsSl.of_owns hra) j hjl
      have hnm := HMEM.out _ (List.getElem_mem hjl)
      have htk : NS.take (j + 1) = NS.take j ++ [NS[j]] := by rw [List.take_succ_eq_append_getElem hjl]
      generalize NS[j] = nm at *
      have HTK := Lib.hid htk
      have HL := Lib.hid L
      have HA := Lib.hid hA
      have j0 : (0 : Int) ≤ (j : Int) := Int.natCast_nonneg _
      have j1 : (j : Int) < (NS.length : Int) := by omega
      have hen0 : EntOk ⟨nm, false, z32⟩ := ⟨rfl, hnm⟩
      have hie := info_ent hen0
      have hoe := one_ent ⟨nm, false, z32⟩
      clear htk L hA hra
      go_upto_region 20 with ((with_reducible refine at_store 80 (.tmp 16) (.tmp 68) ?_); refine wpl_store (by rfl) 80 (.tmp 16) (.tmp 68) rfl _ (entC ⟨nm, false, z32⟩).toArray (by rfl) (by rfl) 80 _ (heap_alloc_new _ _) hie rfl hoe ?_; rw [World.setRow_alloc_new])
      obtain ⟨BE, hBE⟩ : ∃ BE, wr.heap.size = BE := ⟨_, rfl⟩
      refine wp_forgetH (fun W => Ext wr W ∧ W.heap[BE]? = some (.cells (entC ⟨nm, false, z32⟩).toArray 80 (0, 0))) ⟨(Ext.refl wr).alloc _, blk_new hBE⟩ ?_
      rintro w8 ⟨x8, bE⟩
      rw [hBE]
      have L8 := HL.out.ext x8
      have hMB : M ≤ BE := by rw [← hBE]; exact HL.out.sz
      have hu5 : ∀ g, u5.ownBlock = some g → g < BE := fun g hg => by rw [← hBE]; exact (HL.out.en.lt g hg).2
      have sp8 := (HL.out.sp.more (av' := fun g => (av g ∨ u5.ownBlock = some g) ∨ g = BE) (fun g h => by rcases h with h | h; exact .inl h; exact .inr (by omega))).ext x8
      have HSP8 := Lib.hid sp8
      have hnms : nm.size ≤ maxLen := by unfold maxLen; omega
      have hlook := L8.rd.rest.look_ok Tryz.underlying9 Tryz.underlying102 (zeroSl w8) nm hnms
      have HL8 := Lib.hid L8
      clear L8 x8 hie hoe sp8
      cases hrf : rf nm with
      | none =>
        have hbel := HL8.out.rd.fam.no nm hrf
        have htext := HL8.out.rd.text.look Tryz.underlying9 Tryz.underlying103 (zeroSt w8) nm hnms
        obtain ⟨tx, htx⟩ : ∃ tx, (textO l nm).getD ⟨#[]⟩ = tx := ⟨_, rfl⟩
        have htl : tx.size ≤ 4096 := by rw [← htx]; exact text_of (fun f hf => (HGOOD.out f hf).2) nm
        rw [show ((textO l nm).map Value.string).getD (.string ⟨#[]⟩) = .string tx from by rw [← htx]; cases textO l nm <;> rfl] at htext
        rw [hrf] at hlook
        have HBEL := Lib.hid hbel
        have HTX := Lib.hid htx
        clear hbel htx hrf
        have hbb := fun (v : Value) (hv : v.cells = #[v]) => built_blob v hv (bL tx)
        go_wp2_with (first
          | ((with_reducible refine at_convS 9 40 (.tmp 84) ?_); refine wpl_strRow (by rfl) 9 40 (.tmp 84) rfl tx (by rfl) Tryz.underlying9 Tryz.underlying40 Tryz.underlying5 (by omega) ?_; intro cp w9 rt9 x9)
          | ((with_reducible refine at_bldT 45 ?_); refine wpl_bldG (by rfl) 45 _ rfl [(0, .int .i64 1), (1, .slice (some ⟨w8.heap.size, 0, none⟩) tx.size cp)] (by rfl) _ (hbb _ rfl) ?_))
        have hAl2 : A.2.length ≤ 16 := by omega
        have hmul : j * costS k ≤ 16 * costS k := Nat.mul_le_mul_right _ (by omega)
        have hck : os.length + (1 + 16 * costS k) ≤ 800000 := hln
        have ho : ObjW w9 ⟨idL (blobO (bL tx)), blobO (bL tx), .slice (some ⟨w8.heap.size, 0, none⟩) tx.size cp, nilS, nilS⟩ :=
          ⟨rt9, World.ownsRow_nil _ _ _ _, ⟨rfl, rfl⟩, ok_blob (by unfold bL; rw [Array.length_toList]; exact htl), idL_len _⟩
        have HO := Lib.hid ho
        have HXX := Lib.hid (HL8.out.x0.trans x9)
        refine Calls.mono (putC W0 _ _ nilS nilS (blobO (bL tx)) HO.out (HT0.out.ext HXX.out) (chk_blob (by unfold bL; rw [Array.length_toList]; exact htl)) S base _ A.1.1 A.1.2 (HSP8.out.ext x9) (fun g hg => by simp [nilS, Value.ownBlock] at hg) (by omega) HXX.out hb hS) ?_
        rintro e w10 ⟨rfl, sp10, kh10, x10⟩
        obtain ⟨I, hI⟩ : ∃ I, idL (blobO (bL tx)) = I := ⟨_, rfl⟩
        have hIl : I.length = 32 := by rw [← hI]; exact idL_len _
        rw [hI]
        have bE10 := kh10.cells (x9.keeps bE) (by decide) (by decide)
        have rd10 := (HL8.out.rd.ext x9).keepH kh10
        have en10 := kh10.row (ownsRow_ext HL8.out.en x9) (by decide) (by decide)
        have k10 := (HL8.out.kh.trans (KeepH.of_ext x9)).trans kh10
        have br10 := kh10.cells (x9.keeps HL8.out.br) (by decide) (by decide)
        have hok10 : ∀ e ∈ A.2, EntOk e := HL8.out.ok
        have heI : EntOk ⟨nm, false, I⟩ := ⟨hIl, hnm⟩
        have hth := there_ent bE10 (entC_len hen0)
        have b11 : (w10.setCells BE 2 (I.map bc)).heap[BE]? = some (.cells (entC ⟨nm, false, I⟩).toArray 80 (0, 0)) := by
          rw [heap_setCells BE (I.map bc) 2 w10 _ bE10, ent_set nm false z32 I (by rw [hIl]; rfl)]
        have g11 := grown_setCells BE (I.map bc) 2 w10
        have hie := info_ent heI
        obtain ⟨zN, tyN⟩ := tyEn
        have HRD := Lib.hid rd10
        have HEN := Lib.hid en10
        have HK := Lib.hid k10
        have HBR := Lib.hid br10
        have HSP := Lib.hid sp10
        have HOK10 := Lib.hid hok10
        have hBE10 := block_lt bE10
        have hBEf := Lib.hid bE10
        clear rd10 en10 k10 br10 sp10 hok10 bE10 kh10 hlook htext
        go_upto_region 24 with ((with_reducible refine at_store 31 (.tmp 88) (.tmp 87) ?_); refine wpl_storeMid (by rfl) 31 (.tmp 88) (.tmp 87) rfl BE 2 (I.map bc).toArray (by rfl) (by rfl) (by simpa [hIl] using hth) (id_size hIl) (id_one _) ?_; simp only [List.toList_toArray])
        obtain ⟨w11, hw11⟩ : ∃ x, x = w10.setCells BE 2 (I.map bc) := ⟨_, rfl⟩
        have sp11 := HSP.out.turn g11 (fun k hk => by cases hk; exact ⟨.inr rfl, _, _, hBEf.out⟩)
        rw [← hw11] at b11 g11 sp11
        have hne5 : u5.ownBlock ≠ some BE := fun e => by have := hu5 _ e; omega
        have en11 := ownsRow_grown HEN.out g11 hne5
        have hM11 : M ≤ w11.heap.size := by have := g11.size; omega
        have hA2 : A.2.length ≤ 16 := hAl2
        refine wp_forgetH (fun W => W = w11) hw11.symm ?_
        rintro w11' rfl
        have HW11 := Lib.hid hw11
        clear hw11
        have xb : Ext w11' (w11'.alloc (.cells (entC ⟨nm, false, I⟩).toArray 80)) := (Ext.refl w11').alloc _
        have hbb2 := fun w => build_en w ⟨nm, false, I⟩ heI
        have hbN := heap_alloc_new w11' (.cells (entC ⟨nm, false, I⟩).toArray 80)
        have enB := ownsRow_ext en11 xb
        have hMB2 : M ≤ (w11'.alloc (.cells (entC ⟨nm, false, I⟩).toArray 80)).heap.size := by have := xb.size; omega
        have HENB := Lib.hid enB
        clear enB en11
        go_wp2_with (first
          | ((with_reducible refine at_load 80 (.tmp 16) ?_); refine wpl_load (by rfl) 80 (.tmp 16) rfl BE (by rfl) 80 (entC ⟨nm, false, I⟩).toArray (0, 0) _ b11 Tryz.underlying80 rfl hie ?_)
          | ((with_reducible refine at_build1 41 (.tmp 90) ?_); refine wpl_buildOne (by rfl) 41 (.tmp 90) rfl (entC ⟨nm, false, I⟩) (by rfl) (hbb2 _) ?_)
          | (at_builtin; refine wpl_appAt tyN (by rfl) (.tmp 89) (.tmp 91) rfl M u5 A.2.length _ HENB.out (by rfl) w11'.heap.size (entC ⟨nm, false, I⟩) (0, 0) hbN (entC_len heI) (by rfl) (one_en _) (by omega) (by omega) hMB2 ?_; intro v13 w13 own13 gr13 at13))
        have hrow : ∀ b, u5.ownBlock = some b → ∃ c f, (w11'.alloc (.cells (entC ⟨nm, false, I⟩).toArray 80)).heap[b]? = some (.cells c 80 f) := fun b hb5 => by
          rcases HENB.out.2 with ⟨q, _⟩ | ⟨g', cap', cur, q, _, hh, _⟩
          · rw [q] at hb5; simp [Value.ownBlock] at hb5
          · rw [q] at hb5; simp [Value.ownBlock] at hb5; subst hb5; exact ⟨_, _, hh⟩
        have sp13 : SplW w13 S base (fun g => av g ∨ v13.ownBlock = some g) (putS A.1.1 A.1.2 (blobO (bL tx))).1 (putS A.1.1 A.1.2 (blobO (bL tx))).2 := by
          refine (((sp11.ext xb).more (av' := fun g => ((av g ∨ u5.ownBlock = some g) ∨ g = BE) ∨ g = (w11'.alloc (.cells (entC ⟨nm, false, I⟩).toArray 80)).heap.size) (fun g h => by rcases h with h | h; exact .inl h; exact .inr (by omega))).turn gr13 (fun b hb5 => ⟨.inl (.inl (.inr hb5)), hrow b hb5⟩)).less (fun g h => ?_)
          rcases h with h | h
          · exact .inl (.inl (.inl h))
          · rcases at13 with e | e
            · exact .inl (.inl (.inr (by rw [← e]; exact h)))
            · rw [e] at h; exact .inr (Option.some.inj h).symm
        have hkE : ∀ (g : Nat) (x : Obj), w10.heap[g]? = some x → g ≠ BE → u5.ownBlock ≠ some g → w13.heap[g]? = some x := fun g x hg h1 h2 => grown_keep gr13 (xb.keeps (grown_other g11 hg h1)) h2
        have kE : KeepE w10 w13 := fun g x hg hx => hkE g x hg (fun e => by subst e; rw [hBEf.out] at hg; exact hx _ _ (Option.some.inj hg).symm) (fun e => by
          obtain ⟨c, f, hh⟩ := hrow g e
          have hne : g ≠ BE := fun e2 => hne5 (by rw [← e2]; exact e)
          rw [xb.keeps (grown_other g11 hg hne)] at hh
          exact hx _ _ (Option.some.inj hh))
        have hwM : w.heap.size ≤ M := by have := x1.size; omega
        have kh13 : KeepH w w13 := fun g x hg n1 n2 => hkE g x (HK.out g x hg n1 n2) (fun e => by have := block_lt hg; omega) (fun e => by have := (HENB.out.lt g e).1; have := block_lt hg; omega)
        have hbr13 : w13.heap[G]? = some (.cells (z32.map bc).toArray 31 (0, 0)) := kE _ _ HBR.out (fun c f q => by injection q with _ q _; revert q; decide)
        have hWM : W0.heap.size ≤ M := by have := X.size; omega
        have x013 : Ext W0 w13 := ((x10.grown g11 (fun b hb5 => by cases hb5; omega)).trans xb).grown gr13 (fun b hb5 => by have := (HENB.out.lt b hb5).1; omega)
        have hsz13 : M ≤ w13.heap.size := by have := gr13.size; omega
        have hstep : stepS (folderS k) l A nm = (putS A.1.1 A.1.2 (blobO (bL tx)), A.2 ++ [⟨nm, false, I⟩]) := by
          unfold stepS
          rw [if_pos HBEL.out, HTX.out, hI]
        have hrel2 : F2 W0 w w1 S base av G BR (BR + 1) M l rf (.slice (some ⟨pb2, o2, none⟩) NS.length c8) v13 (putS A.1.1 A.1.2 (blobO (bL tx)), A.2 ++ [⟨nm, false, I⟩]) w13 :=
          ⟨HRD.out.keepE kE, sp13, by simpa using own13, fun e he => by
            rcases List.mem_append.1 he with q | q
            · exact HOK10.out e q
            · rw [List.mem_singleton.1 q]; exact heI, kh13, hbr13, x013, hsz13⟩
        have HREL := Lib.hid hrel2
        have HSTEP := Lib.hid hstep
        have hpl := putS_len A.1.1 A.1.2 (blobO (bL tx))
        have hcp := costS_pos k
        clear hrel2 hstep sp13 hkE kE kh13 hrow
        go_roundg (NS.length - (j + 1))
        case measure => omega
        case rel => exact ⟨j + 1, v13, _, by omega, by omega, by go_num, rfl, by rw [Nat.add_mul, Nat.one_mul]; show (putS A.1.1 A.1.2 (blobO (bL tx))).1.length ≤ _; omega, by simp; omega, by rw [HTK.out, List.foldl_append, ← HA.out]; exact HSTEP.out.symm, HREL.out⟩
      | some vv =>
        obtain ⟨hbel, ownF⟩ := HL8.out.rd.fam.yes nm vv hrf
        have hb16 : (belowF l nm).length ≤ 16 := Nat.le_trans (belowF_len l nm) hl16
        have hfl : ∀ f ∈ belowF l nm, flOk f ∧ pathN k f.path = true ∧ f.text.size ≤ 4096 := below_good HGOOD.out HOK.out
        have hisF : IsF w8 vv (belowF l nm) := ⟨IsSl.of_owns ownF, fun f hf => (hfl f hf).1⟩
        obtain ⟨a9, c9, e9⟩ := ownSh ownF
        rw [hrf] at hlook
        rw [e9] at hlook hisF
        have HBEL := Lib.hid hbel
        have HIF := Lib.hid hisF
        have HFL := Lib.hid hfl
        have hmul : j * costS k ≤ 16 * costS k := Nat.mul_le_mul_right _ (by omega)
        have hAl2 : A.2.length ≤ 16 := by omega
        have hck : os.length + (1 + 16 * costS k) ≤ 800000 := hln
        have hjk : (j + 1) * costS k ≤ 16 * costS k := Nat.mul_le_mul_right _ (by omega)
        rw [Nat.add_mul, Nat.one_mul] at hjk
        have havl : ∀ g, (av g ∨ u5.ownBlock = some g) ∨ g = BE → g < w8.heap.size := fun g h => by
          have h8 := block_lt bE
          rcases h with (h | h) | h
          · have := hav g h; have := x1.size; omega
          · have := hu5 g h; omega
          · omega
        have x9 : Ext w8 w8 := Ext.refl _
        clear ownF e9 hbel hfl hisF hrf
        go_wp2_with fail
        refine Calls.mono (HIH.out W0 w8 (belowF l nm) _ HIF.out hb16 (fun f hf => (HFL.out f hf).2) (fun _ => HBEL.out) HT0.out S base _ A.1.1 A.1.2 HSP8.out havl (by omega) HL8.out.x0 hb hS) ?_
        rintro e w10 ⟨rfl, sp10, kh10, x10⟩
        obtain ⟨I, hI⟩ : ∃ I, (folderS k A.1 (belowF l nm)).2 = I := ⟨_, rfl⟩
        have hIl : I.length = 32 := by rw [← hI]; exact folderS_id _ _ _
        rw [show folderS k (A.1.1, A.1.2) (belowF l nm) = folderS k A.1 (belowF l nm) from rfl] at sp10 ⊢
        rw [hI]
        have bE10 := kh10.cells (x9.keeps bE) (by decide) (by decide)
        have rd10 := (HL8.out.rd.ext x9).keepH kh10
        have en10 := kh10.row (ownsRow_ext HL8.out.en x9) (by decide) (by decide)
        have k10 := (HL8.out.kh.trans (KeepH.of_ext x9)).trans kh10
        have br10 := kh10.cells (x9.keeps HL8.out.br) (by decide) (by decide)
        have hok10 : ∀ e ∈ A.2, EntOk e := HL8.out.ok
        have heI : EntOk ⟨nm, true, I⟩ := ⟨hIl, hnm⟩
        have bE1 : (w10.setCell ⟨BE, 1, none⟩ (.bool true)).heap[BE]? = some (.cells (entC ⟨nm, true, z32⟩).toArray 80 (0, 0)) := by
          have := block_setCell bE10 (i := 1) (.bool true)
          simpa [entC] using this
        have hth := there_ent bE1 (entC_len (e := ⟨nm, true, z32⟩) ⟨rfl, hnm⟩)
        have b11 : ((w10.setCell ⟨BE, 1, none⟩ (.bool true)).setCells BE 2 (I.map bc)).heap[BE]? = some (.cells (entC ⟨nm, true, I⟩).toArray 80 (0, 0)) := by
          rw [heap_setCells BE (I.map bc) 2 _ _ bE1, ent_set nm true z32 I (by rw [hIl]; rfl)]
        have g11 := grown_trans (grown_setCell w10 BE 1 (.bool true)) (grown_setCells BE (I.map bc) 2 (w10.setCell ⟨BE, 1, none⟩ (.bool true)))
        have kkE := block_allH bE10
        have ffE := fun z => block_free bE10 z
        have hie := info_ent heI
        obtain ⟨zN, tyN⟩ := tyEn
        have HRD := Lib.hid rd10
        have HEN := Lib.hid en10
        have HK := Lib.hid k10
        have HBR := Lib.hid br10
        have HSP := Lib.hid sp10
        have HOK10 := Lib.hid hok10
        have hBE10 := block_lt bE10
        have hBEf := Lib.hid bE10
        clear rd10 en10 k10 br10 sp10 hok10 bE10 kh10 hlook
        go_upto_region 24 with ((with_reducible refine at_store 31 (.tmp 80) (.tmp 78) ?_); refine wpl_storeMid (by rfl) 31 (.tmp 80) (.tmp 78) rfl BE 2 (I.map bc).toArray (by rfl) (by rfl) (by simpa [hIl] using hth) (id_size hIl) (id_one _) ?_; simp only [List.toList_toArray])
        obtain ⟨w11, hw11⟩ : ∃ x, x = (w10.setCell ⟨BE, 1, none⟩ (.bool true)).setCells BE 2 (I.map bc) := ⟨_, rfl⟩
        have sp11 := HSP.out.turn g11 (fun k hk => by cases hk; exact ⟨.inr rfl, _, _, hBEf.out⟩)
        rw [← hw11] at b11 g11 sp11
        have hne5 : u5.ownBlock ≠ some BE := fun e => by have := hu5 _ e; omega
        have en11 := ownsRow_grown HEN.out g11 hne5
        have hM11 : M ≤ w11.heap.size := by have := g11.size; omega
        have hA2 : A.2.length ≤ 16 := hAl2
        refine wp_forgetH (fun W => W = w11) hw11.symm ?_
        rintro w11' rfl
        have HW11 := Lib.hid hw11
        clear hw11
        have xb : Ext w11' (w11'.alloc (.cells (entC ⟨nm, true, I⟩).toArray 80)) := (Ext.refl w11').alloc _
        have hbb2 := fun w => build_en w ⟨nm, true, I⟩ heI
        have hbN := heap_alloc_new w11' (.cells (entC ⟨nm, true, I⟩).toArray 80)
        have enB := ownsRow_ext en11 xb
        have hMB2 : M ≤ (w11'.alloc (.cells (entC ⟨nm, true, I⟩).toArray 80)).heap.size := by have := xb.size; omega
        have HENB := Lib.hid enB
        clear enB en11
        go_wp2_with (first
          | ((with_reducible refine at_load 80 (.tmp 16) ?_); refine wpl_load (by rfl) 80 (.tmp 16) rfl BE (by rfl) 80 (entC ⟨nm, true, I⟩).toArray (0, 0) _ b11 Tryz.underlying80 rfl hie ?_)
          | ((with_reducible refine at_build1 41 (.tmp 90) ?_); refine wpl_buildOne (by rfl) 41 (.tmp 90) rfl (entC ⟨nm, true, I⟩) (by rfl) (hbb2 _) ?_)
          | (at_builtin; refine wpl_appAt tyN (by rfl) (.tmp 89) (.tmp 91) rfl M u5 A.2.length _ HENB.out (by rfl) w11'.heap.size (entC ⟨nm, true, I⟩) (0, 0) hbN (entC_len heI) (by rfl) (one_en _) (by omega) (by omega) hMB2 ?_; intro v13 w13 own13 gr13 at13))
        have hrow : ∀ b, u5.ownBlock = some b → ∃ c f, (w11'.alloc (.cells (entC ⟨nm, true, I⟩).toArray 80)).heap[b]? = some (.cells c 80 f) := fun b hb5 => by
          rcases HENB.out.2 with ⟨q, _⟩ | ⟨g', cap', cur, q, _, hh, _⟩
          · rw [q] at hb5; simp [Value.ownBlock] at hb5
          · rw [q] at hb5; simp [Value.ownBlock] at hb5; subst hb5; exact ⟨_, _, hh⟩
        have sp13 : SplW w13 S base (fun g => av g ∨ v13.ownBlock = some g) (folderS k A.1 (belowF l nm)).1.1 (folderS k A.1 (belowF l nm)).1.2 := by
          refine (((sp11.ext xb).more (av' := fun g => ((av g ∨ u5.ownBlock = some g) ∨ g = BE) ∨ g = (w11'.alloc (.cells (entC ⟨nm, true, I⟩).toArray 80)).heap.size) (fun g h => by rcases h with h | h; exact .inl h; exact .inr (by omega))).turn gr13 (fun b hb5 => ⟨.inl (.inl (.inr hb5)), hrow b hb5⟩)).less (fun g h => ?_)
          rcases h with h | h
          · exact .inl (.inl (.inl h))
          · rcases at13 with e | e
            · exact .inl (.inl (.inr (by rw [← e]; exact h)))
            · rw [e] at h; exact .inr (Option.some.inj h).symm
        have hkE : ∀ (g : Nat) (x : Obj), w10.heap[g]? = some x → g ≠ BE → u5.ownBlock ≠ some g → w13.heap[g]? = some x := fun g x hg h1 h2 => grown_keep gr13 (xb.keeps (grown_other g11 hg h1)) h2
        have kE : KeepE w10 w13 := fun g x hg hx => hkE g x hg (fun e => by subst e; rw [hBEf.out] at hg; exact hx _ _ (Option.some.inj hg).symm) (fun e => by
          obtain ⟨c, f, hh⟩ := hrow g e
          have hne : g ≠ BE := fun e2 => hne5 (by rw [← e2]; exact e)
          rw [xb.keeps (grown_other g11 hg hne)] at hh
          exact hx _ _ (Option.some.inj hh))
        have hwM : w.heap.size ≤ M := by have := x1.size; omega
        have kh13 : KeepH w w13 := fun g x hg n1 n2 => hkE g x (HK.out g x hg n1 n2) (fun e => by have := block_lt hg; omega) (fun e => by have := (HENB.out.lt g e).1; have := block_lt hg; omega)
        have hbr13 : w13.heap[G]? = some (.cells (z32.map bc).toArray 31 (0, 0)) := kE _ _ HBR.out (fun c f q => by injection q with _ q _; revert q; decide)
        have hWM : W0.heap.size ≤ M := by have := X.size; omega
        have x013 : Ext W0 w13 := ((x10.grown g11 (fun b hb5 => by cases hb5; omega)).trans xb).grown gr13 (fun b hb5 => by have := (HENB.out.lt b hb5).1; omega)
        have hsz13 : M ≤ w13.heap.size := by have := gr13.size; omega
        have hstep : stepS (folderS k) l A nm = ((folderS k A.1 (belowF l nm)).1, A.2 ++ [⟨nm, true, I⟩]) := by
          unfold stepS
          rw [if_neg HBEL.out, hI]
        have hrel2 : F2 W0 w w1 S base av G BR (BR + 1) M l rf (.slice (some ⟨pb2, o2, none⟩) NS.length c8) v13 ((folderS k A.1 (belowF l nm)).1, A.2 ++ [⟨nm, true, I⟩]) w13 :=
          ⟨HRD.out.keepE kE, sp13, by simpa using own13, fun e he => by
            rcases List.mem_append.1 he with q | q
            · exact HOK10.out e q
            · rw [List.mem_singleton.1 q]; exact heI, kh13, hbr13, x013, hsz13⟩
        have HREL := Lib.hid hrel2
        have HSTEP := Lib.hid hstep
        have hpl := folderS_len k A.1 (belowF l nm) hb16
        have hcp := costS_pos k
        clear hrel2 hstep sp13 hkE kE kh13 hrow
        go_roundg (NS.length - (j + 1))
        case measure => omega
        case rel => exact ⟨j + 1, v13, _, by omega, by omega, by go_num, rfl, by rw [Nat.add_mul, Nat.one_mul]; show (folderS k A.1 (belowF l nm)).1.1.length ≤ _; omega, by simp; omega, by rw [HTK.out, List.foldl_append, ← HA.out]; exact HSTEP.out.symm, HREL.out⟩
    · have ej : j = NS.length := by omega
      rw [ej, List.take_length] at hA
      have hst : folderS (k + 1) (os, tw) l = ((putS A.1.1 A.1.2 (treeO A.2)), idL (treeO A.2)) := by
        unfold folderS
        simp only
        rw [HNS.out, ← hA]
      have hck : checkB (treeO A.2) = true := chk_tree (fun f hf => (HGOOD.out f hf).1) hl16 (by rw [hA, step_names, HNS.out]; rfl)
      have hokT : ObjOk (treeO A.2) := ⟨⟨by show (-9223372036854775808 : Int) ≤ 2; omega, by show (2 : Int) ≤ _; omega⟩, Nat.zero_le _, L.ok, by show A.2.length ≤ _; omega, rfl, (fun e he => by cases he), Nat.zero_le _, by show 0 < 4294967296; omega, Nat.zero_le _⟩
      have hoT : ObjW wr ⟨idL (treeO A.2), treeO A.2, nilS, u5, nilS⟩ := ⟨RowT.nil wr, ownsRow_base L.en (Nat.zero_le _), ⟨rfl, rfl⟩, hokT, idL_len _⟩
      obtain ⟨a5, c5, e5⟩ := ownSh L.en
      have hbt := built_tree u5 (by rw [e5]; rfl) A.2
      have hwM : w.heap.size ≤ M := by have := x1.size; omega
      have hav5 : ∀ g, u5.ownBlock = some g → ¬ av g := fun g hg q => by have := (L.en.lt g hg).1; have := hav g q; omega
      have HST := Lib.hid hst
      have HCK := Lib.hid hck
      have HOT := Lib.hid hoT
      have HL := Lib.hid L
      have hlnA : A.1.1.length ≤ 900000 := by
        have h1 : j * costS k ≤ 16 * costS k := Nat.mul_le_mul_right _ (by omega)
        have h2 : os.length + (1 + 16 * costS k) ≤ 800000 := hln
        omega
      clear hst hck hoT hA L e5
      go_wp2_with ((with_reducible refine at_bldT 45 ?_); refine wpl_bldG (by rfl) 45 _ rfl [(0, .int .i64 2), (2, u5)] (by rfl) _ hbt ?_)
      refine Calls.mono (putC W0 wr nilS u5 nilS (treeO A.2) HOT.out (HT0.out.ext HL.out.x0) HCK.out S base av A.1.1 A.1.2 (HL.out.sp.less (fun g h => .inl h)) hav5 hlnA HL.out.x0 hb hS) ?_
      rintro e w14 ⟨rfl, sp14, kh14, x14⟩
      have br14 := kh14.cells HL.out.br (by decide) (by decide)
      have hIl := idL_len (treeO A.2)
      have hRR := HR.out.symm.trans HST.out
      have hkw := HL.out.kh.trans kh14
      have HSP := Lib.hid sp14
      have HKW := Lib.hid hkw
      have HRR := Lib.hid hRR
      clear sp14 kh14 hkw hRR
      generalize hIT : idL (treeO A.2) = IT at *
      go_wp2_with ((with_reducible refine at_store 31 (.tmp 4) (.tmp 97) ?_); refine wpl_store (by rfl) 31 (.tmp 4) (.tmp 97) rfl G (IT.map bc).toArray (by rfl) (by rfl) 31 _ br14 (id_size hIl) (id_same (a := z32) rfl hIl) (id_one _) ?_)
      have gF : w14.grownBy (w14.setRow G (IT.map bc).toArray) (some G) := grown_setRow'
      have hfin := setRow_heap w14 G _ (IT.map bc).toArray _ _ br14
      have hW0G : W0.heap.size ≤ G := by have := X.size; omega
      refine bodyPost_ret (results_cellH rfl _ _ G _ _ _ _ (by rfl) hfin Tryz.underlying31 rfl (id_size hIl)) rfl ⟨?_, ?_, ?_, x14.grown gF (fun b hb5 => by cases hb5; exact hW0G)⟩
      · rw [HRR.out]
      · rw [HRR.out]
        exact HSP.out.idSet (fun g c t f hg ht => grown_other gF hg (fun e => by subst e; rw [br14] at hg; simp only [Option.some.injEq, Obj.cells.injEq] at hg; exact ht hg.2.1.symm)) gF.size
      · exact fun g x hg n1 n2 => grown_other gF (HKW.out g x hg n1 n2) (fun e => by have := block_lt hg; omega)
end Go.Proofs.YtpadfabjihaapaaGreatDoor
