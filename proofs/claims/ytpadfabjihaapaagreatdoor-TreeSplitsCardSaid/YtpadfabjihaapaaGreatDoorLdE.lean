/- The library's SortFunc at a row of structs of the call's own. -/
import Derived.Test.YtpadfabjihaapaaGreatDoorSoL
import Derived.Test.YtpadfabjihaapaaGreatDoorRfJ
import Derived.Test.YtpadfabjihaapaaGreatDoorFlC
import Derived.Sort.OwnSorted
import Derived.Shelf.SlSortCmp.NoneTotal
import Derived.Test.YtpadfabjihaapaaGreatDoorTsH
namespace Go.Proofs.YtpadfabjihaapaaGreatDoor
open Go.RowKit Go.Sort Go.Shelf Go.Lib
set_option linter.unusedVariables false
set_option linter.unusedSimpArgs false

section
variable {α : Type} {enc : α → List Value} {k : Nat}
theorem flatG (hk : ∀ x, (enc x).length = k) : ∀ (l : List α) (i c : Nat) (hi : i < l.length), c < k → (l.flatMap enc)[i * k + c]? = (enc l[i])[c]?
  | [], i, c, hi, hc => by cases hi
  | x :: r, 0, c, hi, hc => by
    rw [List.flatMap_cons, List.getElem?_append_left (by rw [hk]; omega)]
    simp
  | x :: r, i + 1, c, hi, hc => by
    have e : (i + 1) * k = i * k + k := by rw [Nat.add_mul, Nat.one_mul]
    rw [List.flatMap_cons, List.getElem?_append_right (by rw [hk]; omega), hk, show (i + 1) * k + c - k = i * k + c by omega]
    exact flatG hk r i c (by simpa using hi) hc
theorem flatLen (hk : ∀ x, (enc x).length = k) (l : List α) : (l.flatMap enc).length = l.length * k := by
  induction l with
  | nil => simp
  | cons x r ih => rw [List.flatMap_cons, List.length_append, ih, hk, List.length_cons, Nat.add_mul]; omega
variable [Inhabited α]
theorem flatK_list (hk : ∀ x, (enc x).length = k) (h0 : 0 < k) (l : List α) : flatK enc k l.toArray = (l.flatMap enc).toArray := by
  apply Array.ext_getElem?
  intro t
  by_cases ht : t < l.length * k
  · have hi : t / k < l.length := (Nat.div_lt_iff_lt_mul h0).2 ht
    have hc : t % k < (enc l[t / k]).length := by rw [hk]; exact Nat.mod_lt _ h0
    have := flatG hk l (t / k) (t % k) hi (Nat.mod_lt _ h0)
    rw [Nat.div_add_mod'] at this
    have e1 : (l.flatMap enc).toArray[t]? = (l.flatMap enc)[t]? := by simp
    rw [e1, this, List.getElem?_eq_getElem hc]
    simp [flatK, ht, hi, hc]
  · rw [Array.getElem?_eq_none (by simp; omega), Array.getElem?_eq_none (by rw [List.size_toArray, flatLen hk]; omega)]
theorem holds_blockV {w : World} {g : Nat} {cur : Array Value} {e : TypeId} {xs : List Value} (hb : w.heap[g]? = some (.cells cur e (0, 0))) (ht : cur.toList.take xs.length = xs) : Holds id w g 0 xs.toArray := by
  intro j hj
  have hj' : j < xs.length := by simpa using hj
  refine ⟨?_, by simp [World.frozen?, hb]⟩
  have h1 : (cur.toList.take xs.length)[j]? = xs[j]? := by rw [ht]
  rw [List.getElem?_take_of_lt hj'] at h1
  simp only [World.cell?, hb, Nat.zero_add]
  simp only [Option.isSome_none, Bool.false_eq_true, if_false]
  rw [← Array.getElem?_toList, h1]
  simp [hj']
theorem heap_sortedV {w : World} {g n : Nat} {os : Array Obj} {cur : Array Value} {e : TypeId} {fr : Nat × Nat} (d : Array Value) (hb : w.heap[g]? = some (.cells cur e fr)) :
    (grow (putRow id (Sort.ahead w n) g 0 d) os).heap[g]? = some (.cells (putCells id 0 d cur) e fr) := by
  have hg : g < w.heap.size := (Array.getElem?_eq_some_iff.1 hb).1
  rw [heap_grow_old _ _ (by simpa using hg)]
  simp [putRow, mapBlock, Sort.ahead, Array.getElem?_modify, hb, onCells]
theorem grownBy_sortedV {w : World} {g n : Nat} {os : Array Obj} (d : Array Value) : w.grownBy (grow (putRow id (Sort.ahead w n) g 0 d) os) (some g) := by
  refine ⟨rfl, rfl, rfl, by simp, fun k hk hne => ?_⟩
  rw [heap_grow_old _ _ (by simpa using hk)]
  have : g ≠ k := fun e => hne (by rw [e])
  simp [putRow, mapBlock, Sort.ahead, Array.getElem?_modify, this]
theorem take_putCellsV (cur : Array Value) (ts : List Value) (h : ts.length ≤ cur.size) : (putCells id 0 ts.toArray cur).toList.take ts.length = ts := by
  apply List.ext_getElem?
  intro j
  by_cases hj : j < ts.length
  · rw [List.getElem?_take_of_lt hj, Array.getElem?_toList]
    simp [putCells, hj, show j < cur.size by omega]
  · rw [List.getElem?_take_eq_none (by omega), List.getElem?_eq_none (by omega)]
theorem sortOwn {P : Program} {ρ : Ren} (L : SlLaysF0.n6 P ρ) (e : TypeId) (aE : ∀ w, (isAgg (ρ.t 24)).run P w = .ok true w) (zE : ∀ w, (Go.sizeOf (ρ.t 24)).run P w = .ok k w) (hk : ∀ x, (enc x).length = k) (h0 : 0 < k) (h1 : ∀ x, ∀ v ∈ enc x, v.oneCell' = true) (cf : α → α → Int) (hO : SWO (ltOf cf)) (g : Nat)
    (eg : ∀ args w, (callFunc g args).run P w = .ok (.enter g args) w) (hcl : ∀ x y W, Calls P g #[.agg (enc x).toArray, .agg (enc y).toArray] W fun ex w' => ex = .returned (.int .i64 (cf x y)) ∧ ∃ q os', w' = grow (W.drewN q) os')
    (w : World) (base : Nat) (v : Value) (l : List α) (h : w.ownsRow base e k v l.length (l.flatMap enc)) (hl : l.length ≤ 1000000) :
    Calls P (ρ.f 6) #[v, .func (.func g) #[] #[]] w fun ex w' => ex = .returned (.tuple #[]) ∧ ∃ l' : List α, l'.Perm l ∧ l'.Pairwise (fun a b => ltOf cf b a = false) ∧ w'.ownsRow base e k v l.length (l'.flatMap enc) ∧ w.grownBy w' v.ownBlock := by
  have h0' := h
  rcases h.2 with ⟨rfl, hn⟩ | ⟨b, cap, cur, rfl, hb, hg, hn, hcap, hs, ht⟩
  · obtain rfl : l = [] := List.eq_nil_of_length_eq_zero hn
    refine Calls.mono (AnyF.slices_SortFunc_none L none 0 _ w) ?_
    rintro ex w' ⟨rfl, rfl⟩
    exact ⟨rfl, [], List.Perm.refl _, List.Pairwise.nil, by simpa using h0', World.grownBy.refl _ _⟩
  · have hH : HoldsK enc k w b 0 l.toArray := by
      unfold HoldsK
      rw [flatK_list hk h0]
      exact holds_blockV hg (by rw [flatLen hk]; exact ht)
    have := AnyQ.slices_SortFunc L k aE zE enc hk h1 cf hO g #[] b 0 cap l.toArray w eg (fun m os dk _ x y => hcl x y _) hH (block_lt hg) (by simp; omega)
    rw [List.size_toArray] at this
    refine Calls.mono this ?_
    rintro ex w' ⟨rfl, d', n, os, hp, hso, rfl⟩
    obtain ⟨p1, _, p3⟩ := hp
    have hsz : d'.size = l.length := by simpa using p1
    have hl' : d'.toList.length = l.length := by simpa using hsz
    refine ⟨rfl, d'.toList, ?_, ?_, ?_, ?_⟩
    · rw [Array.extract_eq_self_of_le (by omega), Array.extract_eq_self_of_le (by simp)] at p3
      simpa using p3
    · rw [List.pairwise_iff_getElem]
      intro i j hi hj hij
      have := hso i j (Nat.zero_le _) hij (by omega)
      rw [getElem!_pos _ j (by rw [hsz]; omega), getElem!_pos _ i (by rw [hsz]; omega)] at this
      simpa using this
    · have hE : flatK enc k d' = (d'.toList.flatMap enc).toArray := by
        have := flatK_list hk h0 d'.toList
        rwa [Array.toArray_toList] at this
      have hfl := flatLen hk d'.toList
      refine ⟨by rw [hfl, hl'], .inr ⟨b, cap, putCells id 0 (d'.toList.flatMap enc).toArray cur, rfl, hb, ?_, hn, hcap, by simp [putCells, hs], ?_⟩⟩
      · unfold sortWorldK putRowK
        rw [hE]
        exact heap_sortedV _ hg
      · have := take_putCellsV cur (d'.toList.flatMap enc) (by rw [hfl, hl', hs]; exact Nat.mul_le_mul_right _ hn)
        rwa [hfl, hl'] at this
    · unfold sortWorldK putRowK
      exact grownBy_sortedV _
end
theorem cmpN_lt {α : Type} (p : α → ByteArray) (x y : α) : ltOf (fun x y : α => cmpN (p x) (p y)) x y = nl (p x) (p y) := by
  unfold ltOf cmpN
  cases h1 : nl (p x) (p y) with
  | true => simp [h1]
  | false => cases h2 : nl (p y) (p x) <;> simp [h1, h2]
theorem cmpN_swo {α : Type} (p : α → ByteArray) : SWO (ltOf fun x y : α => cmpN (p x) (p y)) := by
  have e := cmpN_lt p
  refine ⟨fun x => by rw [e]; exact nl_irr _, fun x y z h1 h2 => by rw [e] at *; exact nl_tr h1 h2, fun x y z h1 h2 => ?_⟩
  rw [e] at *
  cases h : nl (p x) (p z) with
  | false => rfl
  | true =>
    cases h3 : nl (p z) (p y) with
    | true => rw [nl_tr h h3] at h1; cases h1
    | false => rw [nl_eq h3 h2] at h; rw [h] at h1; cases h1
end Go.Proofs.YtpadfabjihaapaaGreatDoor

namespace Go.Proofs.YtpadfabjihaapaaGreatDoor
open Go.RowKit Go.Sort Go.Shelf Go.Lib
set_option linter.unusedVariables false
set_option linter.unusedSimpArgs false

set_option maxHeartbeats 1000000 in
theorem closLoad (x y : Fl) (W : World) : Calls Tryz.prog 49 #[.agg (flC x).toArray, .agg (flC y).toArray] W fun e w' => e = .returned (.int .i64 (cmpN x.path y.path)) ∧ ∃ q os', w' = grow (W.drewN q) os' := by
  have hcon := fun W' => cmpCompare W' x.path y.path
  generalize cmpN x.path y.path = r at hcon ⊢
  unfold flC
  go_enter Tryz.func49, Tryz.ntmps49
  go_wp2_with (go_at_call 39; refine (hcon _).mono ?_; rintro e w' ⟨rfl, rfl⟩)
  go_ret
  exact ⟨rfl, 0, _, by rw [alloc_eq_grow, alloc_eq_grow, grow_grow]; rfl⟩
theorem sortFiles (w : World) (base : Nat) (v : Value) (l : List Fl) (h : w.ownsRow base 66 2 v l.length (l.flatMap flC)) (hl : l.length ≤ 1000000) :
    Calls Tryz.prog 48 #[v, .func (.func 49) #[] #[]] w fun ex w' => ex = .returned (.tuple #[]) ∧ ∃ l' : List Fl, l'.Perm l ∧ l'.Pairwise (fun a b => nl b.path a.path = false) ∧ w'.ownsRow base 66 2 v l.length (l'.flatMap flC) ∧ w.grownBy w' v.ownBlock := by
  have eg : ∀ args w, (callFunc 49 args).run Tryz.prog w = .ok (.enter 49 args) w := enters_of Tryz.func49 (by kernel_rfl) rfl
  have hcon := sortOwn Tryz.sortFile 66 (fun w => Tryz.isAgg66 w) (fun w => Tryz.sizeOf66 w) (fun _ => rfl) (by decide) (fun x v hv => by simp [flC] at hv; rcases hv with rfl | rfl <;> rfl) (fun x y : Fl => cmpN x.path y.path) (cmpN_swo Fl.path) 49 eg closLoad w base v l h hl
  change Calls Tryz.prog 48 _ _ _ at hcon
  refine Calls.mono hcon ?_
  rintro ex w' ⟨rfl, l', h1, h2, h3, h4⟩
  exact ⟨rfl, l', h1, h2.imp fun h => by rwa [cmpN_lt] at h, h3, h4⟩
end Go.Proofs.YtpadfabjihaapaaGreatDoor

namespace Go.Proofs.YtpadfabjihaapaaGreatDoor
open Go.RowKit
set_option linter.unusedVariables false
set_option linter.unusedSimpArgs false

theorem folderAll : ∀ k, FolderOk k
  | 0 => by
    intro W0 w l v h hl hg hz
    cases l with
    | nil => exact absurd rfl (hz rfl)
    | cons f r => exact absurd (hg f (List.mem_cons_self ..)).1 (by unfold pathN; decide)
  | k + 1 => folderStep k (folderAll k)
/-- Slice v holds the objects os, each under its Id; the row is the call's own from base on. -/
def HeapW (base : Nat) (w : World) (v : Value) (os : List ObjL) : Prop :=
  ∃ ds : List HdV, ds.map (·.o) = os ∧ (∀ d ∈ ds, d.id = idL d.o ∧ ObjW w d) ∧ w.ownsRow base 47 70 v (ds.map hdV).length ((ds.map hdV).flatMap hdC)
theorem HeapW.nil (base : Nat) (w : World) : HeapW base w nilS [] := ⟨[], rfl, (fun d h => by cases h), World.ownsRow_nil _ _ _ _⟩
theorem HeapW.ext {base : Nat} {w w' : World} {v : Value} {os : List ObjL} (h : HeapW base w v os) (x : Ext w w') : HeapW base w' v os := by
  obtain ⟨ds, h1, h2, h3⟩ := h
  exact ⟨ds, h1, fun d hd => ⟨(h2 d hd).1, (h2 d hd).2.ext x⟩, ownsRow_ext h3 x⟩
theorem HeapW.keep {base : Nat} {w w' : World} {v : Value} {os : List ObjL} (h : HeapW base w v os) (hk : ∀ (g : Nat) (c : Array Value) (t : TypeId) (f : Nat × Nat), w.heap[g]? = some (Obj.cells c t f) → t = 5 ∨ t = 80 ∨ t = 47 → w'.heap[g]? = some (Obj.cells c t f)) : HeapW base w' v os := by
  obtain ⟨ds, h1, h2, h3⟩ := h
  exact ⟨ds, h1, fun d hd => ⟨(h2 d hd).1, (h2 d hd).2.keep fun g c t f hg ht => hk g c t f hg (by rcases ht with h | h; exact .inl h; exact .inr (.inl h))⟩, own_keep h3 fun g c hg => hk g c _ _ hg (.inr (.inr rfl))⟩
theorem HeapW.isH {base : Nat} {w : World} {v : Value} {os : List ObjL} (h : HeapW base w v os) : ∃ ds : List HdV, ds.map (·.o) = os ∧ (∀ d ∈ ds, d.id = idL d.o ∧ ObjW w d) ∧ IsH w v (ds.map hdV) := by
  obtain ⟨ds, h1, h2, h3⟩ := h
  exact ⟨ds, h1, h2, IsSl.of_owns h3, fun e he => by
    obtain ⟨d, hd, rfl⟩ := List.mem_map.1 he
    exact (h2 d hd).2.hd⟩
/-- What tree.Split answers. -/
def splitV (l : List Fl) : List ObjL × List UInt8 × Int :=
  if repoB l then (if (folderS 4 ([], false) l).1.2 then ([], z32, 151) else ((folderS 4 ([], false) l).1.1, (folderS 4 ([], false) l).2, 0)) else ([], z32, 170)
theorem repoB_files {l : List Fl} (h : repoB l = true) : l.length ≤ 16 ∧ ∀ f ∈ l, pathN 4 f.path = true ∧ f.text.size ≤ 4096 := by
  unfold repoB at h
  rw [Bool.and_eq_true, Bool.and_eq_true, decide_eq_true_eq, List.all_eq_true] at h
  refine ⟨h.1, fun f hf => ?_⟩
  obtain ⟨i, hi, rfl⟩ := List.mem_iff_getElem.1 hf
  have := h.2.1 i (List.mem_range.2 hi)
  unfold fileB pathB at this
  rw [List.getD_eq_getElem?_getD, List.getElem?_eq_getElem hi] at this
  simp only [Option.getD_some, Bool.and_eq_true, decide_eq_true_eq] at this
  exact ⟨by rw [pathN_is, this.1.2.2, Bool.and_true]; exact decide_eq_true this.1.2.1, this.2.1⟩
set_option maxHeartbeats 4000000 in
set_option maxRecDepth 100000 in
theorem splitC (w : World) (hT : Tabs w) (v : Value) (l : List Fl) (h : IsF w v l) :
    Calls Tryz.prog 9 #[Value.agg #[v]] w fun e w' => ∃ v', e = .returned (.tuple #[.agg #[v'], .agg ((splitV l).2.1.map bc).toArray, .int .i64 (splitV l).2.2]) ∧ HeapW w.heap.size w' v' (splitV l).1 ∧ Ext w w' := by
  obtain ⟨R, hR⟩ : ∃ R, splitV l = R := ⟨_, rfl⟩
  rw [hR]
  have HR := Lib.hid hR
  have HT := Lib.hid hT
  have HF := Lib.hid h
  clear hR hT h
  go_enter Tryz.func9, Tryz.ntmps9
  go_upto_region 1 with fail
  generalize hG : w.heap.size = G at *
  refine wp_forgetH (fun W => Ext w W ∧ W.heap[G]? = some (.cells #[v] 24 (0, 0)) ∧ W.heap[G + 1]? = some (.cells #[nilS] 29 (0, 0)) ∧ W.heap[G + 1 + 1]? = some (.cells (z32.map bc).toArray 31 (0, 0))) (new3 hG _ _ _) ?_
  rintro w1 ⟨x1, bP, bH, bI⟩
  have hw1 : G + 3 ≤ w1.heap.size := block_lt bI
  go_wp2_with ((with_reducible refine at_load 24 (.tmp 1) ?_); refine wpl_load (by rfl) 24 (.tmp 1) rfl G (by rfl) 24 #[v] (0, 0) _ bP Tryz.underlying24 rfl (by kernel_rfl) ?_)
  refine Calls.mono (treeCheck _ v l (HF.out.ext x1)) ?_
  rintro e w2 ⟨rfl, x2⟩
  cases hrb : repoB l with
  | false =>
    rw [show errR false = 170 from rfl]
    have hst : splitV l = ([], z32, 170) := by unfold splitV; rw [hrb]; rfl
    have bH2 := x2.keeps bH
    have h3 : w2.grownBy (w2.setRow (G + 1) #[nilS]) (some (G + 1)) := grown_setRow'
    have bI3 := grown_other h3 (x2.keeps bI) (by omega)
    have bH3 := setRow_heap w2 (G + 1) _ #[nilS] _ _ bH2
    have h4 : (w2.setRow (G + 1) #[nilS]).grownBy ((w2.setRow (G + 1) #[nilS]).setRow (G + 1 + 1) (z32.map bc).toArray) (some (G + 1 + 1)) := grown_setRow'
    have f1 := grown_other h4 bH3 (by omega)
    have f2 := setRow_heap (w2.setRow (G + 1) #[nilS]) (G + 1 + 1) _ (z32.map bc).toArray _ _ bI3
    have xF := (((x1.trans x2)).grown h3 (fun k hk => by cases hk; omega)).grown h4 (fun k hk => by cases hk; omega)
    have hRR := HR.out.symm.trans hst
    have HX := Lib.hid xF
    go_wp2_with (first
      | ((with_reducible refine at_store 29 (.tmp 2) (.tmp 12) ?_); refine wpl_store (by rfl) 29 (.tmp 2) (.tmp 12) rfl (G + 1) #[nilS] (by rfl) (by rfl) 29 _ bH2 (infoHp _) rfl (by kernel_rfl) ?_)
      | ((with_reducible refine at_store 31 (.tmp 3) (.tmp 13) ?_); refine wpl_store (by rfl) 31 (.tmp 3) (.tmp 13) rfl (G + 1 + 1) (z32.map bc).toArray (by rfl) (by rfl) 31 _ bI3 (id_size rfl) (id_same (a := z32) rfl rfl) (id_one _) ?_))
    subst hRR
    exact bodyPost_ret (results_ccT (p := 2) (q := 3) (r := 4) rfl _ _ (G + 1) _ _ _ _ (by rfl) f1 Tryz.underlying29 rfl (infoHp _) (G + 1 + 1) _ _ _ _ (by rfl) f2 Tryz.underlying31 rfl (id_size rfl)) rfl ⟨_, rfl, HeapW.nil _ _, HX.out⟩
  | true =>
    rw [show errR true = 0 from rfl]
    obtain ⟨hl16, hgood⟩ := repoB_files hrb
    go_upto_region 5 with fail
    obtain ⟨N, hN⟩ : ∃ N, w2.heap.size = N := ⟨_, rfl⟩
    rw [hN]
    have hN3 : G + 3 ≤ N := by have := x2.size; omega
    refine wp_forgetH (fun W => Ext w2 W ∧ spl W N nilS false false) ⟨(Ext.refl w2).alloc _, blk_new hN⟩ ?_
    rintro w3 ⟨x3, bS⟩
    have bP3 := x3.keeps (x2.keeps bP)
    have kP := block_allH bP3
    have X3 := (x1.trans x2).trans x3
    have sp3 : SplW w3 N G (fun _ => False) [] false := ⟨nilS, [], rfl, (fun d h => by cases h), World.ownsRow_nil _ _ _ _, bS, by have := x3.size; omega⟩
    obtain ⟨F, hF⟩ : ∃ F, folderS 4 ([], false) l = F := ⟨_, rfl⟩
    have hFl : F.2.length = 32 := by rw [← hF]; exact folderS_id _ _ _
    have hst : splitV l = (if F.1.2 then ([], z32, 151) else (F.1.1, F.2, 0)) := by unfold splitV; rw [hrb, hF]; rfl
    have hRR := HR.out.symm.trans hst
    have HRR := Lib.hid hRR
    have HSP3 := Lib.hid sp3
    have HGD := Lib.hid hgood
    clear sp3 hst hRR hgood
    go_wp2_with fail
    refine Calls.mono (folderAll 4 w w3 l v (HF.out.ext X3) hl16 HGD.out (fun h => by cases h) HT.out N G _ [] false HSP3.out (fun g h => by cases h) (by decide) X3 (by omega) (by omega)) ?_
    rintro e w4 ⟨rfl, sp4, kh4, x4⟩
    rw [hF] at sp4 ⊢
    have bH4 := kh4.cells (x3.keeps (x2.keeps bH)) (by decide) (by decide)
    have bI4 := kh4.cells (x3.keeps (x2.keeps bI)) (by decide) (by decide)
    obtain ⟨v4, ds, d1, d2, own4, bS4, hsz4⟩ := sp4
    obtain ⟨⟨os4, tw4⟩, I⟩ := F
    go_upto_region 6 with ((with_reducible refine at_store 31 (.tmp 7) (.tmp 20) ?_); refine wpl_store (by rfl) 31 (.tmp 7) (.tmp 20) rfl _ (I.map bc).toArray (by rfl) (by rfl) 31 _ (heap_alloc_new _ _) (id_size hFl) (id_same (a := z32) rfl hFl) (id_one _) ?_; rw [World.setRow_alloc_new])
    have bT := heap_alloc_new w4 (.cells (I.map bc).toArray 31)
    have x5 : Ext w4 (w4.alloc (.cells (I.map bc).toArray 31)) := (Ext.refl w4).alloc _
    obtain ⟨M, hM⟩ : ∃ M, w4.heap.size = M := ⟨_, rfl⟩
    rw [hM] at bT ⊢
    have hM4 : N + 1 ≤ M := by have := block_lt bS4; omega
    generalize w4.alloc (.cells (I.map bc).toArray 31) = w5 at *
    rw [List.length_map] at own4
    obtain ⟨a4, c4, rfl⟩ := ownSh own4
    have own5 := ownsRow_ext own4 x5
    have bS5 := x5.keeps bS4
    have bH5 := x5.keeps bH4
    have bI5 := x5.keeps bI4
    have X5 : Ext w w5 := x4.trans x5
    have d5 : ∀ d ∈ ds, d.id = idL d.o ∧ ObjW w5 d := fun d hd => ⟨(d2 d hd).1, (d2 d hd).2.1.ext x5⟩
    have kS := block_allH bS5
    have HX5 := Lib.hid X5
    have HD5 := Lib.hid d5
    have HOW := Lib.hid own5
    have HD1 := Lib.hid d1
    clear bS4 bH4 bI4 own4 kP d2 own5 d1 d5 X5 hF
    have hTS := HRR.out
    cases tw4 with
    | true =>
      have h3 : w5.grownBy (w5.setRow (G + 1) #[nilS]) (some (G + 1)) := grown_setRow'
      have bI3 := grown_other h3 bI5 (by omega)
      have bH3 := setRow_heap w5 (G + 1) _ #[nilS] _ _ bH5
      have h4 : (w5.setRow (G + 1) #[nilS]).grownBy ((w5.setRow (G + 1) #[nilS]).setRow (G + 1 + 1) (z32.map bc).toArray) (some (G + 1 + 1)) := grown_setRow'
      have f1 := grown_other h4 bH3 (by omega)
      have f2 := setRow_heap (w5.setRow (G + 1) #[nilS]) (G + 1 + 1) _ (z32.map bc).toArray _ _ bI3
      have xF := (HX5.out.grown h3 (fun k hk => by cases hk; omega)).grown h4 (fun k hk => by cases hk; omega)
      have HX := Lib.hid xF
      rw [if_pos rfl] at hTS
      go_wp2_with (first
        | ((with_reducible refine at_store 29 (.tmp 2) (.tmp 33) ?_); refine wpl_store (by rfl) 29 (.tmp 2) (.tmp 33) rfl (G + 1) #[nilS] (by rfl) (by rfl) 29 _ bH5 (infoHp _) rfl (by kernel_rfl) ?_)
        | ((with_reducible refine at_store 31 (.tmp 3) (.tmp 34) ?_); refine wpl_store (by rfl) 31 (.tmp 3) (.tmp 34) rfl (G + 1 + 1) (z32.map bc).toArray (by rfl) (by rfl) 31 _ bI3 (id_size rfl) (id_same (a := z32) rfl rfl) (id_one _) ?_))
      subst hTS
      exact bodyPost_ret (results_ccT (p := 2) (q := 3) (r := 4) rfl _ _ (G + 1) _ _ _ _ (by rfl) f1 Tryz.underlying29 rfl (infoHp _) (G + 1 + 1) _ _ _ _ (by rfl) f2 Tryz.underlying31 rfl (id_size rfl)) rfl ⟨_, rfl, HeapW.nil _ _, HX.out⟩
    | false =>
      rw [if_neg (by decide)] at hTS
      go_wp2_with fail
      obtain ⟨SS, hSS⟩ : ∃ SS : World → Prop, SS = fun v => spl v N (.slice a4 ds.length c4) false false ∧ v.heap[M]? = some (.cells (I.map bc).toArray 31 (0, 0)) := ⟨_, rfl⟩
      have KS := fun v (h : SS v) => block_allH (show v.heap[N]? = _ from by rw [hSS] at h; exact h.1)
      have KT := fun v (h : SS v) => range_blk (show v.heap[M]? = _ from by rw [hSS] at h; exact h.2)
      have HSS := Lib.hid hSS
      have HBT := Lib.hid bT
      have hinf := id_info hFl
      clear kS hSS
      refine wp_region_G 6 (SS) (by kernel_rfl) fun wd hqd hHeld => ?_
      have hE : Ext w5 wd := hHeld
      have hHeld : SS wd := by rw [HSS.out]; exact ⟨hE.keeps bS5, hE.keeps HBT.out⟩
      refine G_pure (i := 0) (u := ?vspl0) rfl (by kernel_rfl) (by kernel_rfl) (by kernel_rfl) (fun _ _ _ h => h) (by decide) (Or.inl ⟨by rfl, ?hyspl0⟩) hHeld ?_
      case hyspl0 => (intro w hSw; go_simp; try with_reducible rfl)
      simp only [Act.put, List.setIfInBounds_toArray, List.set_cons_zero, List.set_cons_succ, List.getElem_toArray, List.getElem_cons_zero, List.getElem_cons_succ]
      refine G_pure (i := 1) (u := ?vspl1) rfl (by kernel_rfl) (by kernel_rfl) (by kernel_rfl) (fun _ _ _ h => h) (by decide) (Or.inl ⟨by rfl, ?hyspl1⟩) hHeld ?_
      case hyspl1 => (intro w hSw; go_simp; try with_reducible rfl)
      simp only [Act.put, List.setIfInBounds_toArray, List.set_cons_zero, List.set_cons_succ, List.getElem_toArray, List.getElem_cons_zero, List.getElem_cons_succ]
      refine G_pure (i := 2) (u := ?vspl2) rfl (by kernel_rfl) (by kernel_rfl) (by kernel_rfl) (fun _ _ _ h => h) (by decide) (Or.inl ⟨by rfl, ?hyspl2⟩) hHeld ?_
      case hyspl2 => (intro w hSw; go_simp; try with_reducible rfl)
      simp only [Act.put, List.setIfInBounds_toArray, List.set_cons_zero, List.set_cons_succ, List.getElem_toArray, List.getElem_cons_zero, List.getElem_cons_succ]
      refine G_take (i := 3) (u := ?vspl3) rfl (by kernel_rfl) (by kernel_rfl) (by kernel_rfl) (fun _ _ _ h => h) rfl (by kernel_rfl) (by decide) (by rfl) (Or.inl ⟨by rfl, ?hyspl3⟩) hHeld ?_
      case hyspl3 => (intro w hSw; have kk := KS _ hSw; go_simp; try with_reducible rfl)
      simp only [Act.put, List.setIfInBounds_toArray, List.set_cons_zero, List.set_cons_succ, List.getElem_toArray, List.getElem_cons_zero, List.getElem_cons_succ]
      refine G_take (i := 4) (u := _) rfl (by kernel_rfl) (by kernel_rfl) (by kernel_rfl) (fun _ _ _ h => h) rfl (by kernel_rfl) (by decide) (by rfl) (yieldsIf_load_mid (by rfl) _ _ rfl _ _ rfl (I.map bc) _ (fun w hSw => KT _ hSw) Tryz.underlying31 rfl hinf) hHeld ?_
      simp only [Act.put, List.setIfInBounds_toArray, List.set_cons_zero, List.set_cons_succ, List.getElem_toArray, List.getElem_cons_zero, List.getElem_cons_succ]
      refine G_all (rs := [5]) (by kernel_rfl) (by simp) ?_
      intro i hi; obtain rfl : i = 5 := by simpa using hi
      refine wpOp_run rfl (by rfl) ?_
      have bH6 := hE.keeps bH5
      refine wp_store_row 29 (.tmp 2) (.tmp 38) rfl (G + 1) #[.slice a4 ds.length c4] (by rfl) (by rfl) 29 _ bH6 (infoHp _) rfl (by kernel_rfl) ?_
      have h3 : wd.grownBy (wd.setRow (G + 1) #[.slice a4 ds.length c4]) (some (G + 1)) := grown_setRow'
      have hHeld : SS (wd.setRow (G + 1) #[.slice a4 ds.length c4]) := by rw [HSS.out]; exact ⟨grown_other h3 (hE.keeps bS5) (by omega), grown_other h3 (hE.keeps HBT.out) (by omega)⟩
      first | refine ⟨fun _ => hHeld, ?_⟩ | refine ⟨hHeld, ?_⟩ | skip
      try simp only [Act.put, List.setIfInBounds_toArray, List.set_cons_zero, List.set_cons_succ, List.getElem_toArray, List.getElem_cons_zero, List.getElem_cons_succ]
      refine G_all (rs := [6]) (by kernel_rfl) (by simp) ?_
      intro i hi; obtain rfl : i = 6 := by simpa using hi
      refine wpOp_run rfl (by rfl) ?_
      refine wp_store_row 31 (.tmp 3) (.tmp 39) rfl (G + 1 + 1) (I.map bc).toArray (by rfl) (by rfl) 31 _ (grown_other h3 (hE.keeps bI5) (by omega)) (id_size hFl) (id_same (a := z32) rfl hFl) (id_one _) ?_
      try refine ⟨fun e => absurd e (by decide), ?_⟩
      refine G_free _ _ _ _ (by kernel_rfl) ?_
      try simp only [Act.put, List.setIfInBounds_toArray, List.set_cons_zero, List.set_cons_succ, List.getElem_toArray, List.getElem_cons_zero, List.getElem_cons_succ]
      refine wpAny_take (i := 7) (v := ?vspl7) rfl (by kernel_rfl) (by kernel_rfl) (by kernel_rfl) (fun _ _ _ h => h) (Or.inl ⟨by rfl, ?hyspl7⟩) ?_
      case hyspl7 => (intro w ; go_simp; try with_reducible rfl)
      simp only [Act.put, List.setIfInBounds_toArray, List.set_cons_zero, List.set_cons_succ, List.getElem_toArray, List.getElem_cons_zero, List.getElem_cons_succ]
      refine wpAny_done (by kernel_rfl) ?_ _
      refine NoPanic.normal ?_
      go_wp2_with fail
      have h4 : (wd.setRow (G + 1) #[.slice a4 ds.length c4]).grownBy ((wd.setRow (G + 1) #[.slice a4 ds.length c4]).setRow (G + 1 + 1) (I.map bc).toArray) (some (G + 1 + 1)) := grown_setRow'
      have f1 := grown_other h4 (setRow_heap wd (G + 1) _ #[.slice a4 ds.length c4] _ _ bH6) (by omega)
      have f2 := setRow_heap (wd.setRow (G + 1) #[.slice a4 ds.length c4]) (G + 1 + 1) _ (I.map bc).toArray _ _ (grown_other h3 (hE.keeps bI5) (by omega))
      have xF := ((HX5.out.trans hE).grown h3 (fun k hk => by cases hk; omega)).grown h4 (fun k hk => by cases hk; omega)
      have hp0 : HeapW G wd (.slice a4 ds.length c4) os4 := ⟨ds, HD1.out, fun d hd => ⟨(HD5.out d hd).1, (HD5.out d hd).2.ext hE⟩, by rw [List.length_map]; exact ownsRow_ext HOW.out hE⟩
      have bI6 := grown_other h3 (hE.keeps bI5) (by omega)
      have hp1 := hp0.keep (w' := (wd.setRow (G + 1) #[.slice a4 ds.length c4])) fun g c t f hg ht => grown_other h3 hg (fun e => by subst e; rw [bH6] at hg; simp only [Option.some.injEq, Obj.cells.injEq] at hg; obtain ⟨_, rfl, _⟩ := hg; revert ht; decide)
      have hp2 := hp1.keep fun g c t f hg ht => grown_other h4 hg (fun e => by subst e; rw [bI6] at hg; simp only [Option.some.injEq, Obj.cells.injEq] at hg; obtain ⟨_, rfl, _⟩ := hg; revert ht; decide)
      subst hTS
      exact bodyPost_ret (results_ccT (p := 2) (q := 3) (r := 4) rfl _ _ (G + 1) _ _ _ _ (by rfl) f1 Tryz.underlying29 rfl (infoHp _) (G + 1 + 1) _ _ _ _ (by rfl) f2 Tryz.underlying31 rfl (id_size hFl)) rfl ⟨_, rfl, by rw [hG]; exact hp2, xF⟩
end Go.Proofs.YtpadfabjihaapaaGreatDoor

namespace Go.Proofs.YtpadfabjihaapaaGreatDoor
open Go.RowKit
set_option linter.unusedVariables false
set_option linter.unusedSimpArgs false

set_option maxHeartbeats 4000000 in
set_option maxRecDepth 100000 in
theorem closGet (w : World) (x : HdC) (q : Nat) (id : List UInt8) (hid : id.length = 32) (hx : HdOk x) (h0 : w.rangeAt q 0 (id.map bc)) :
    Calls Tryz.prog 89 #[.agg (hdC x).toArray, .pointer (some ⟨q, 0, none⟩)] w fun e w' => e = .returned (.bool (decide (x.id = id))) ∧ Ext w w' := by
  have X : Ext w (w.alloc (.cells (hdC x).toArray 47)) := (Ext.refl w).alloc _
  have hA : (w.alloc (.cells (hdC x).toArray 47)).rangeAt w.heap.size 0 (x.id.map bc) := hd_id (fun j v hj => by rw [block_cell (heap_alloc_new w _)]; simpa using hj)
  have hB := rangeAt_ext h0 X
  have hti := fun w => eql_id w x.id id hx.id hid
  have hia := id_info hx.id
  have hib := id_info hid
  go_enter Tryz.func89, Tryz.ntmps89
  generalize hG : w.heap.size = G at *
  go_wp2_with (first
    | ((with_reducible refine at_load 31 (.tmp 4) ?_); refine wpl_mid (by rfl) 31 (.tmp 4) rfl G 0 (by rfl) (x.id.map bc) _ hA Tryz.underlying31 rfl hia ?_)
    | ((with_reducible refine at_load 31 (.tmp 6) ?_); refine wpl_mid (by rfl) 31 (.tmp 6) rfl q 0 (by rfl) (id.map bc) _ hB Tryz.underlying31 rfl hib ?_)
    | ((with_reducible refine at_load 31 (.tmp 1) ?_); refine wpl_mid (by rfl) 31 (.tmp 1) rfl q 0 (by rfl) (id.map bc) _ hB Tryz.underlying31 rfl hib ?_))
  go_ret
  exact ⟨ret_bool rfl, X⟩

set_option maxHeartbeats 4000000 in
set_option maxRecDepth 100000 in
theorem indexGet (w : World) (v : Value) (l : List HdC) (h : IsH w v l) (q : Nat) (id : List UInt8) (hid : id.length = 32) (h0 : w.rangeAt q 0 (id.map bc)) :
    Calls Tryz.prog 72 #[v, .func (Fn.func 89) #[] #[.pointer (some ⟨q, 0, none⟩)]] w fun e w' => ∃ r, e = .returned (.int .i64 r) ∧ FoundA l (fun x => decide (x.id = id)) r ∧ Ext w w' := by
  obtain ⟨ao, cap, rfl⟩ := sl_len h.sl
  obtain ⟨b1, m1⟩ : l.length ≤ cap ∧ cap ≤ 9223372036854775807 := by
    obtain ⟨_, ao', cap', e, b1, m1, _⟩ := h.sl
    simp only [Value.slice.injEq, true_and] at e
    obtain ⟨_, rfl⟩ := e
    exact ⟨b1, m1⟩
  have H := Lib.hid h
  have H0 := Lib.hid h0
  clear h h0
  go_enter Tryz.func72, Tryz.ntmps72
  go_wp2
  go_loopg [8] l.length (fun g s8 wr => ∃ k : Nat, k ≤ l.length ∧ l.length - k ≤ g ∧ s8 = .int .i64 k ∧ (∀ j (hj : j < l.length), j < k → decide (l[j].id = id) = false) ∧ Ext w wr)
  case atStart => exact ⟨0, Nat.zero_le _, by omega, rfl, fun j _ hj => absurd hj (Nat.not_lt_zero _), Ext.refl _⟩
  case round =>
    obtain ⟨k, hk, hg, rfl, hall, xr⟩ := hrel
    have HALL := Lib.hid hall
    clear hall
    by_cases hlt : k < l.length
    · obtain ⟨pb, o, rfl, hraL⟩ := hd_at H.out.sl H.out.ok k hlt
      have hra := rangeAt_ext hraL xr
      have hok := H.out.ok l[k] (List.getElem_mem hlt)
      have hq := rangeAt_ext H0.out xr
      generalize hx : l[k] = x at *
      have HX := Lib.hid hx
      have hinf := hd_info hok
      have HQ := Lib.hid hq
      clear hx hraL hq
      go_wp2_with ((with_reducible refine at_load 47 (.tmp 14) ?_); refine wpl_mid (by rfl) 47 (.tmp 14) rfl pb (o + k * 70) (by rfl) (hdC x) _ hra Tryz.underlying47 rfl hinf ?_)
      refine Calls.mono (closGet _ x q id hid hok HQ.out) ?_
      rintro e w2 ⟨rfl, x2⟩
      cases hp : decide (x.id = id)
      · have HP := Lib.hid hp
        clear hp
        go_wp2
        go_roundg (l.length - (k + 1))
        case measure => omega
        case rel =>
          refine ⟨k + 1, by omega, by omega, by go_num, fun j hj hj1 => ?_, xr.trans x2⟩
          by_cases e : j = k
          · subst e; rw [HX.out]; exact HP.out
          · exact HALL.out j hj (by omega)
      · have HP := Lib.hid hp
        clear hp
        go_wp2
        go_ret
        exact ⟨_, rfl, .inl ⟨k, hlt, rfl, by rw [HX.out]; exact HP.out, fun j hj hj1 => HALL.out j hj hj1⟩, xr.trans x2⟩
    · have : k = l.length := by omega
      subst this
      go_wp2
      go_ret
      exact ⟨_, rfl, .inr ⟨rfl, fun j hj => HALL.out j hj hj⟩, xr⟩

/-- Objects under whatever Ids, read. -/
structure HdL (w : World) (v : Value) (ds : List HdV) : Prop where
  sl : IsH w v (ds.map hdV)
  ob : ∀ d ∈ ds, IsObj w (hdV d).obj.toArray d.vb d.ve d.vp d.o
theorem HdL.ext {w w' : World} {v : Value} {ds : List HdV} (h : HdL w v ds) (x : Ext w w') : HdL w' v ds := ⟨h.sl.ext x, fun d hd => (h.ob d hd).ext x⟩
theorem HeapW.hdL {base : Nat} {w : World} {v : Value} {os : List ObjL} (h : HeapW base w v os) : ∃ ds : List HdV, ds.map (·.o) = os ∧ (∀ d ∈ ds, d.id = idL d.o) ∧ HdL w v ds := by
  obtain ⟨ds, h1, h2, h3⟩ := h.isH
  exact ⟨ds, h1, fun d hd => (h2 d hd).1, h3, fun d hd => (h2 d hd).2.obj⟩
def oN : ObjL := ⟨0, [], [], z32, [], 0, ⟨#[]⟩⟩
def dN : HdV := ⟨z32, oN, nilS, nilS, nilS⟩
theorem dN_obj (w : World) : IsObj w (hdV dN).obj.toArray dN.vb dN.ve dN.vp dN.o := ⟨rfl, ⟨by decide, by decide, (fun e h => by cases h), by decide, rfl, (fun e h => by cases h), by decide, by decide, by decide⟩, isB_nil w, isSl_nil w 34, isSl_nil w 32⟩
/-- What loader.get answers. -/
def gtH (ds : List HdV) (id : List UInt8) (k : Int) : Int × HdV :=
  match ds.find? (fun d => decide (d.id = id)) with
  | none => (4, dN)
  | some d => if d.o.kind = k ∧ checkB d.o = true then (0, d) else (150, dN)
theorem gtH_obj {w : World} {v : Value} {ds : List HdV} (h : HdL w v ds) (id : List UInt8) (k : Int) : IsObj w (hdV (gtH ds id k).2).obj.toArray (gtH ds id k).2.vb (gtH ds id k).2.ve (gtH ds id k).2.vp (gtH ds id k).2.o := by
  unfold gtH
  split
  · exact dN_obj w
  · rename_i d hd
    split
    · exact h.ob d (List.mem_of_find?_eq_some hd)
    · exact dN_obj w
theorem found_get {ds : List HdV} {id : List UInt8} {r : Int} (h : FoundA (ds.map hdV) (fun x => decide (x.id = id)) r) :
    (∃ i, ∃ hi : i < ds.length, r = (i : Int) ∧ ds.find? (fun d => decide (d.id = id)) = some ds[i]) ∨ (r = -1 ∧ ds.find? (fun d => decide (d.id = id)) = none) := by
  rcases h with ⟨i, hi, rfl, hp, hb⟩ | ⟨rfl, hn⟩
  · have hi' : i < ds.length := by simpa using hi
    refine .inl ⟨i, hi', rfl, ?_⟩
    rw [List.find?_eq_some_iff_getElem]
    refine ⟨by simpa [hdV] using hp, i, hi', rfl, fun j hj => ?_⟩
    have := hb j (by simp; omega) hj
    simpa [hdV] using this
  · refine .inr ⟨rfl, List.find?_eq_none.2 fun d hd => ?_⟩
    obtain ⟨j, hj, rfl⟩ := List.mem_iff_getElem.1 hd
    have := hn j (by simpa using hj)
    simpa [hdV] using this
theorem results_ct {P : Program} {fn : Func} {p r : Tmp} {ty : TypeId} (h : fn.results = #[.cell p ty, .tmp r]) (tmps : Array Value) (w : World) (g : Nat) (t : TypeId) (cs : Array Value) (fr : Nat × Nat) (d : TypeDesc)
    (hp : tmps.getD p undef = .pointer (some ⟨g, 0, none⟩)) (hg : w.heap[g]? = some (.cells cs t fr))
    (hu : P.underlying ty = some d) (hd : (match d with | .struct _ | .array _ _ => true | _ => false) = true) (hi : (P.info? ty).map (·.size) = some cs.size) :
    (results fn tmps).run P w = .ok (.tuple #[.agg cs, tmps.getD r undef]) w := by
  have hp' : tmps[p]?.getD undef = .pointer (some ⟨g, 0, none⟩) := by simpa using hp
  simp [results, h, hp', asAddr, run_loadVar_row w g t ty cs fr d hg hu hd hi]
/-- The loader's variable. -/
def ldr (w : World) (L : Nat) (hv fv : Value) : Prop := w.heap[L]? = some (.cells #[hv, fv] 98 (0, 0))
theorem obj_store {w : World} {g : Nat} {c c' : Array Value} {t : TypeId} {f : Nat × Nat} (h : c.size = c'.size) (hg : w.heap[g]? = some (.cells c t f)) : (w.setRow g c').heap[g]? = some (.cells c' t f) := setRow_heap _ _ _ _ _ _ hg

set_option maxHeartbeats 4000000 in
set_option maxRecDepth 100000 in
theorem getC (w : World) (L : Nat) (hv fv : Value) (ds : List HdV) (h : HdL w hv ds) (hL : ldr w L hv fv) (id : List UInt8) (hid : id.length = 32) (k : Int) (hk : -9223372036854775808 ≤ k ∧ k ≤ 9223372036854775807) :
    Calls Tryz.prog 66 #[.pointer (some ⟨L, 0, none⟩), .agg (id.map bc).toArray, .int .i64 k] w fun e w' => e = .returned (.tuple #[.agg (hdV (gtH ds id k).2).obj.toArray, .int .i64 (gtH ds id k).1]) ∧ Ext w w' := by
  obtain ⟨R, hR⟩ : ∃ R, gtH ds id k = R := ⟨_, rfl⟩
  rw [hR]
  have HR := Lib.hid hR
  have HH := Lib.hid h
  obtain ⟨ao, cap, e⟩ := sl_len h.sl.sl
  rw [List.length_map] at e
  subst e
  have hcap := sl_cap h.sl.sl
  clear hR h
  have hLl := block_lt hL
  have hi0 := (dN_obj w).info
  have hz0 := (dN_obj w).size
  have hinfo0 := (dN_obj w)
  go_enter Tryz.func66, Tryz.ntmps66
  go_upto_region 1 with fail
  obtain ⟨G, hG⟩ : ∃ G, w.heap.size = G := ⟨_, rfl⟩
  rw [hG]
  refine wp_forgetH (fun W => Ext w W ∧ W.heap[G]? = some (.cells (id.map bc).toArray 31 (0, 0)) ∧ W.heap[G + 1]? = some (.cells (hdV dN).obj.toArray 45 (0, 0))) ⟨((Ext.refl w).alloc _).alloc _, blk_old (blk_new hG), blk_new (by simp [hG])⟩ ?_
  rintro w1 ⟨x1, bI, bO⟩
  have hG1 : G + 2 ≤ w1.heap.size := block_lt bO
  have bL1 := x1.keeps hL
  have kL := block_allH bL1
  go_wp2_with fail
  refine Calls.mono (indexGet _ _ _ (HH.out.ext x1).sl G id hid (range_blk bI)) ?_
  rintro e w2 ⟨r, rfl, hf, x2⟩
  have X2 := x1.trans x2
  have bL2 := x2.keeps bL1
  have bO2 := x2.keeps bO
  rcases found_get hf with ⟨i, hi, rfl, hfd⟩ | ⟨rfl, hfd⟩
  · have hgv : gtH ds id k = if ds[i].o.kind = k ∧ checkB ds[i].o = true then (0, ds[i]) else (150, dN) := by unfold gtH; rw [hfd]
    have hRR := HR.out.symm.trans hgv
    have hm := List.getElem_mem hi
    have ho := (HH.out.ext X2).ob _ hm
    obtain ⟨pb, of, rfl, hra⟩ := hd_at (HH.out.ext X2).sl.sl (HH.out).sl.ok i (by simpa using hi)
    rw [List.getElem_map] at hra
    have hro := hd_obj ((HH.out).sl.ok _ (List.mem_map_of_mem hm)) hra
    generalize ds[i] = d at *
    have HRR := Lib.hid hRR
    have HRO := Lib.hid hro
    have HO := Lib.hid ho
    have kL2 := block_allH bL2
    have i0 : (0 : Int) ≤ (i : Int) := Int.natCast_nonneg _
    have i1 : (i : Int) < (ds.length : Int) := by omega
    have hio : (Tryz.prog.info? 45).map (·.size) = some (hdV d).obj.length := by have := ho.info; simpa using this
    have hia : (Tryz.prog.info? 45).map (·.size) = some (hdV d).obj.toArray.size := ho.info
    have hsz : (hdV d).obj.toArray.size = 38 := ho.size
    have hone : (hdV d).obj.toArray.all (·.oneCell') = true := by
      have := (HH.out).sl.ok _ (List.mem_map_of_mem hm)
      rw [Array.all_eq_true_iff_forall_mem]
      intro v hv
      exact this.one v (by simpa using hv)
    clear hRR hro ho hf hfd hgv bL1 kL hm hi hra
    go_upto_region 5 with (first
      | ((with_reducible refine at_load 45 (.tmp 27) ?_); refine wpl_mid (by rfl) 45 (.tmp 27) rfl pb (of + i * 70 + 32) (by rfl) (hdV d).obj _ HRO.out Tryz.underlying45 rfl hio ?_)
      | ((with_reducible refine at_store 45 (.tmp 9) (.tmp 28) ?_); refine wpl_store (by rfl) 45 (.tmp 9) (.tmp 28) rfl _ (hdV d).obj.toArray (by rfl) (by rfl) 45 _ (heap_alloc_new _ _) hia (by rw [hsz]; rfl) hone ?_; rw [World.setRow_alloc_new]))
    obtain ⟨M, hM⟩ : ∃ M, w2.heap.size = M := ⟨_, rfl⟩
    rw [hM]
    have hM2 : G + 2 ≤ M := by have := x2.size; omega
    refine wp_forgetH (fun W => Ext w2 W ∧ W.heap[M]? = some (.cells (hdV d).obj.toArray 45 (0, 0))) ⟨(Ext.refl w2).alloc _, blk_new hM⟩ ?_
    rintro w3 ⟨x3, bM⟩
    have X3 := X2.trans x3
    have bO3 := x3.keeps bO2
    have hoA := obj_at bM rfl HO.out.ok
    obtain ⟨c0, _⟩ := hoA
    have HX3 := Lib.hid X3
    have HO3 := Lib.hid (HO.out.ext x3)
    have hw1 : w3.grownBy (w3.setRow (G + 1) (hdV dN).obj.toArray) (some (G + 1)) := grown_setRow'
    have hw2 := setRow_heap w3 (G + 1) _ (hdV dN).obj.toArray _ _ bO3
    have hw3 := (HX3.out.grown hw1 (fun k hk => by cases hk; omega))
    have HW2 := Lib.hid hw2
    have HW3 := Lib.hid hw3
    clear hw1 hw2 hw3
    by_cases hkk : d.o.kind = k
    · have hq : (d.o.kind == k) = true := by simpa using hkk
      have hq2 : (d.o.kind != k) = false := by simp [hkk]
      have HKK := Lib.hid hkk
      clear hkk
      go_upto_region 6 with ((with_reducible refine at_load 45 (.tmp 9) ?_); refine wpl_load (by rfl) 45 (.tmp 9) rfl M (by rfl) 45 (hdV d).obj.toArray (0, 0) _ bM Tryz.underlying45 rfl hia ?_)
      refine Calls.mono (objCheck _ _ _ _ _ _ HO3.out) ?_
      rintro e w4 ⟨rfl, x4⟩
      have bO4 := x4.keeps bO3
      have bM4 := x4.keeps bM
      cases hcb : checkB d.o with
      | true =>
        have hgw : w4.grownBy (w4.setRow (G + 1) (hdV d).obj.toArray) (some (G + 1)) := grown_setRow'
        have f1 := setRow_heap w4 (G + 1) _ (hdV d).obj.toArray _ _ bO4
        have xF := (HX3.out.trans x4).grown hgw (fun k hk => by cases hk; omega)
        rw [show chkE true = 0 from rfl]
        have hRR := HRR.out
        rw [if_pos ⟨HKK.out, hcb⟩] at hRR
        go_wp2_with (first
          | ((with_reducible refine at_load 45 (.tmp 9) ?_); refine wpl_load (by rfl) 45 (.tmp 9) rfl M (by rfl) 45 (hdV d).obj.toArray (0, 0) _ bM4 Tryz.underlying45 rfl hia ?_)
          | ((with_reducible refine at_store 45 (.tmp 6) (.tmp 39) ?_); refine wpl_store (by rfl) 45 (.tmp 6) (.tmp 39) rfl (G + 1) (hdV d).obj.toArray (by rfl) (by rfl) 45 _ bO4 hia (by rw [hsz]; rfl) hone ?_))
        subst hRR
        exact bodyPost_ret (results_ct (p := 6) (r := 7) rfl _ _ (G + 1) _ _ _ _ (by rfl) f1 Tryz.underlying45 rfl hia) rfl ⟨rfl, xF⟩
      | false =>
        have hgw : w4.grownBy (w4.setRow (G + 1) (hdV dN).obj.toArray) (some (G + 1)) := grown_setRow'
        have f1 := setRow_heap w4 (G + 1) _ (hdV dN).obj.toArray _ _ bO4
        have xF := (HX3.out.trans x4).grown hgw (fun k hk => by cases hk; omega)
        rw [show chkE false = 150 from rfl]
        have hRR := HRR.out
        rw [if_neg (fun h => by rw [hcb] at h; cases h.2)] at hRR
        go_wp2_with ((with_reducible refine at_store 45 (.tmp 6) (.tmp 38) ?_); refine wpl_store (by rfl) 45 (.tmp 6) (.tmp 38) rfl (G + 1) (hdV dN).obj.toArray (by rfl) (by rfl) 45 _ bO4 hi0 rfl (by kernel_rfl) ?_)
        subst hRR
        exact bodyPost_ret (results_ct (p := 6) (r := 7) rfl _ _ (G + 1) _ _ _ _ (by rfl) f1 Tryz.underlying45 rfl hi0) rfl ⟨rfl, xF⟩
    · have hq : (d.o.kind == k) = false := by simpa using hkk
      have hq2 : (d.o.kind != k) = true := by simp [hkk]
      have hRR := HRR.out
      rw [if_neg (fun h => hkk h.1)] at hRR
      clear hkk
      go_wp2_with ((with_reducible refine at_store 45 (.tmp 6) (.tmp 38) ?_); refine wpl_store (by rfl) 45 (.tmp 6) (.tmp 38) rfl (G + 1) (hdV dN).obj.toArray (by rfl) (by rfl) 45 _ bO3 hi0 rfl (by kernel_rfl) ?_)
      subst hRR
      exact bodyPost_ret (results_ct (p := 6) (r := 7) rfl _ _ (G + 1) _ _ _ _ (by rfl) HW2.out Tryz.underlying45 rfl hi0) rfl ⟨rfl, HW3.out⟩
  · have hgv : gtH ds id k = (4, dN) := by unfold gtH; rw [hfd]
    have hRR := HR.out.symm.trans hgv
    have h3 : w2.grownBy (w2.setRow (G + 1) (hdV dN).obj.toArray) (some (G + 1)) := grown_setRow'
    have f1 := setRow_heap w2 (G + 1) _ (hdV dN).obj.toArray _ _ bO2
    have xF := X2.grown h3 (fun k hk => by cases hk; omega)
    go_wp2_with ((with_reducible refine at_store 45 (.tmp 6) (.tmp 19) ?_); refine wpl_store (by rfl) 45 (.tmp 6) (.tmp 19) rfl (G + 1) (hdV dN).obj.toArray (by rfl) (by rfl) 45 _ bO2 hi0 rfl (by kernel_rfl) ?_)
    subst hRR
    exact bodyPost_ret (results_ct (p := 6) (r := 7) rfl _ _ (G + 1) _ _ _ _ (by rfl) f1 Tryz.underlying45 rfl hi0) rfl ⟨rfl, xF⟩
end Go.Proofs.YtpadfabjihaapaaGreatDoor

namespace Go.Proofs.YtpadfabjihaapaaGreatDoor
open Go.RowKit
set_option linter.unusedVariables false
set_option linter.unusedSimpArgs false

/-- The files of a folder's entries; rc: what a folder below gives. -/
def entsL (ds : List HdV) (rc : List UInt8 → ByteArray → List Fl → Int × List Fl) (head : ByteArray) : List EntL → List Fl → Int × List Fl
  | [], fs => (0, fs)
  | x :: xs, fs =>
    if x.folder then (if (rc x.id (head ++ x.name ++ ⟨#[47]⟩) fs).1 = 0 then entsL ds rc head xs (rc x.id (head ++ x.name ++ ⟨#[47]⟩) fs).2 else rc x.id (head ++ x.name ++ ⟨#[47]⟩) fs)
    else if (gtH ds x.id 1).1 = 0 then (if fs.length = 16 then (170, fs) else entsL ds rc head xs (fs ++ [⟨head ++ x.name, lB (gtH ds x.id 1).2.o.bytes⟩])) else ((gtH ds x.id 1).1, fs)
/-- A folder, at a level. -/
def loadF (lv : Int) (rc : List HdV → List UInt8 → ByteArray → List Fl → Int × List Fl) (ds : List HdV) (id : List UInt8) (head : ByteArray) (fs : List Fl) : Int × List Fl :=
  if (gtH ds id 2).1 = 0 then (if (gtH ds id 2).2.o.ents = [] ∧ 1 < lv then (170, fs) else entsL ds (rc ds) head (gtH ds id 2).2.o.ents fs) else ((gtH ds id 2).1, fs)
def noF (_ : List HdV) (_ : List UInt8) (_ : ByteArray) (fs : List Fl) : Int × List Fl := (170, fs)
def load4 := loadF 4 noF
def load3 := loadF 3 load4
def load2 := loadF 2 load3
def load1 := loadF 1 load2
/-- loader.folder at a level does as rc says. -/
def LoadC (lv : Int) (rc : List HdV → List UInt8 → ByteArray → List Fl → Int × List Fl) : Prop := ∀ (W0 w : World) (hv : Value) (ds : List HdV) (h : HdL W0 hv ds) (L base : Nat) (fv : Value) (fs : List Fl) (own : w.ownsRow base 66 2 fv fs.length (fs.flatMap flC)) (ok : ∀ f ∈ fs, flOk f) (hfs : fs.length ≤ 16)
    (bL : ldr w L hv fv) (X : Ext W0 w) (hb : W0.heap.size ≤ base) (hbw : base ≤ w.heap.size) (hL : W0.heap.size ≤ L) (id : List UInt8) (hid : id.length = 32) (head : ByteArray) (hh : (head.size : Int) ≤ 64 * lv),
    Calls Tryz.prog 47 #[Value.pointer (some ⟨L, 0, none⟩), .agg (id.map bc).toArray, .string head, .int .i64 lv] w fun e w' => e = .returned (.int .i64 (rc ds id head fs).1) ∧
      ∃ fv', w'.ownsRow base 66 2 fv' (rc ds id head fs).2.length ((rc ds id head fs).2.flatMap flC) ∧ ldr w' L hv fv' ∧ (∀ f ∈ (rc ds id head fs).2, flOk f) ∧ (rc ds id head fs).2.length ≤ 16 ∧ Ext W0 w' ∧ w.heap.size ≤ w'.heap.size
theorem chk_ents {o : ObjL} (h : checkB o = true) : (∀ e ∈ o.ents, nameB e.name = true) ∧ o.ents.length ≤ 32 ∧ o.bytes.length ≤ 4096 := by
  unfold checkB at h
  rw [Bool.and_eq_true, Bool.and_eq_true] at h
  obtain ⟨⟨_, h2⟩, h3⟩ := h
  have hn : ∀ (es : List EntL) (p : Option ByteArray), entsB p es = true → ∀ e ∈ es, nameB e.name = true := by
    intro es
    induction es with
    | nil => intro p _ e he; cases he
    | cons a r ih =>
      intro p hp e he
      unfold entsB at hp
      rw [Bool.and_eq_true, Bool.and_eq_true] at hp
      rcases List.mem_cons.1 he with rfl | q
      · exact hp.1.1
      · exact ih _ hp.2 e q
  refine ⟨hn _ _ h3, ?_, ?_⟩
  · unfold headB at h2
    simp only [Bool.and_eq_true, decide_eq_true_eq] at h2
    omega
  · unfold headB at h2
    simp only [Bool.and_eq_true, decide_eq_true_eq] at h2
    omega
theorem gtH_chk {ds : List HdV} {id : List UInt8} {k : Int} (h : (gtH ds id k).1 = 0) : checkB (gtH ds id k).2.o = true := by
  unfold gtH at h ⊢
  split at h
  · cases h
  · split at h
    · rename_i hc; rw [if_pos hc]; exact hc.2
    · cases h
theorem name_size {s : ByteArray} (h : nameB s = true) : s.size ≤ 24 := by
  unfold nameB endOk at h
  simp only [Bool.and_eq_true, decide_eq_true_eq] at h
  omega
theorem headS (a b : ByteArray) : (a ++ b ++ ⟨#[47]⟩ : ByteArray).size = a.size + b.size + 1 := by rw [ByteArray.size_append, ByteArray.size_append]; rfl
theorem infoFl : (Tryz.prog.info? 66).map (fun i => (i.zero.map (·.cells.size), i.size)) = some (some 2, 2) := by kernel_rfl
theorem build_fl (w : World) (f : Fl) : (Instr.buildSlice 22 1 #[(0, .agg (flC f).toArray)]).run Tryz.prog w = .ok (.slice (some ⟨w.heap.size, 0, none⟩) 1 1) (w.alloc (.cells (flC f).toArray 66)) :=
  build_one w _ _ 2 Tryz.underlying22 infoFl (by omega) (by omega) (flC f) rfl
theorem results_t {P : Program} {fn : Func} {r : Tmp} (h : fn.results = #[.tmp r]) (tmps : Array Value) (w : World) : (results fn tmps).run P w = .ok (tmps.getD r undef) w := by
  simp [results, h]

set_option maxHeartbeats 8000000 in
set_option maxRecDepth 100000 in
theorem loadStep (lv : Int) (rc : List HdV → List UInt8 → ByteArray → List Fl → Int × List Fl) (l1 : 1 ≤ lv) (l4 : lv ≤ 4) (hrc : (lv = 4 ∧ rc = noF) ∨ (lv < 4 ∧ LoadC (lv + 1) rc)) : LoadC lv (loadF lv rc) := by
  intro W0 w hv ds h L base fv fs own ok hfs bL X hb hbw hL id hid head hh
  obtain ⟨R, hR⟩ : ∃ R, loadF lv rc ds id head fs = R := ⟨_, rfl⟩
  rw [hR]
  have HR := Lib.hid hR
  have HH := Lib.hid h
  have HOWN := Lib.hid own
  have HOK := Lib.hid ok
  have HRC := Lib.hid hrc
  have HL := Lib.hid bL
  have HX := Lib.hid X
  have HFS := Lib.hid hfs
  clear hR h own ok hrc bL X hfs
  have hw0 : W0.heap.size ≤ w.heap.size := HX.out.size
  have hii := id_info hid
  obtain ⟨zF, tyF⟩ := tyFi
  go_enter Tryz.func47, Tryz.ntmps47
  go_upto_region 1 with fail
  obtain ⟨G, hG⟩ : ∃ G, w.heap.size = G := ⟨_, rfl⟩
  rw [hG]
  refine wp_forgetH (fun W => Ext w W ∧ W.heap[G]? = some (.cells (id.map bc).toArray 31 (0, 0))) ⟨(Ext.refl w).alloc _, blk_new hG⟩ ?_
  rintro w1 ⟨x1, bI⟩
  go_wp2_with ((with_reducible refine at_load 31 (.tmp 5) ?_); refine wpl_mid (by rfl) 31 (.tmp 5) rfl G 0 (by rfl) (id.map bc) _ (range_blk bI) Tryz.underlying31 rfl hii ?_)
  refine Calls.mono (getC w1 L hv fv ds (HH.out.ext (HX.out.trans x1)) (x1.keeps HL.out) id hid 2 (by omega)) ?_
  rintro e w2 ⟨rfl, x2⟩
  have hgo := gtH_obj (HH.out.ext ((HX.out.trans x1).trans x2)) id 2
  have hgo0 := gtH_obj HH.out id 2
  have hRL : R = if (gtH ds id 2).1 = 0 then (if (gtH ds id 2).2.o.ents = [] ∧ 1 < lv then (170, fs) else entsL ds (rc ds) head (gtH ds id 2).2.o.ents fs) else ((gtH ds id 2).1, fs) := by rw [← HR.out]; rfl
  have hchk := @gtH_chk ds id 2
  generalize gtH ds id 2 = g at *
  obtain ⟨ge, d⟩ := g
  simp only at hgo hgo0 hRL hchk
  have HRL := Lib.hid hRL
  have HGO := Lib.hid hgo
  have HGO0 := Lib.hid hgo0
  have HCHK := Lib.hid hchk
  clear hRL hgo0 hchk
  have hia : (Tryz.prog.info? 45).map (·.size) = some (hdV d).obj.toArray.size := hgo.info
  have hsz : (hdV d).obj.toArray.size = 38 := hgo.size
  have hone : (hdV d).obj.toArray.all (·.oneCell') = true := by
    rw [Array.all_eq_true_iff_forall_mem]
    intro v hv
    have := (obj_hdOk hgo z32 rfl).one v (by simpa using hv)
    exact this
  go_upto_region 2 with ((with_reducible refine at_store 45 (.tmp 9) (.tmp 20) ?_); refine wpl_store (by rfl) 45 (.tmp 9) (.tmp 20) rfl _ (hdV d).obj.toArray (by rfl) (by rfl) 45 _ (heap_alloc_new _ _) hia (by rw [hsz]; rfl) hone ?_; rw [World.setRow_alloc_new])
  obtain ⟨M, hM⟩ : ∃ M, w2.heap.size = M := ⟨_, rfl⟩
  rw [hM]
  refine wp_forgetH (fun W => Ext w2 W ∧ W.heap[M]? = some (.cells (hdV d).obj.toArray 45 (0, 0))) ⟨(Ext.refl w2).alloc _, blk_new hM⟩ ?_
  rintro w3 ⟨x3, bM⟩
  have XX : Ext w w3 := (x1.trans x2).trans x3
  have HXX := Lib.hid XX
  have HX3 := Lib.hid (HX.out.trans XX)
  have hoA := obj_at bM rfl HGO.out.ok
  obtain ⟨c0, c1, c2, _⟩ := hoA
  have own3 := Lib.hid (ownsRow_ext HOWN.out XX)
  have bL3 := Lib.hid (XX.keeps HL.out)
  have hws : G ≤ w3.heap.size := by have := XX.size; omega
  clear x1 x2 x3 XX hgo bM hone hsz hia bI hii
  by_cases hge : ge = 0
  · subst hge
    obtain ⟨hnm, hel, _⟩ := chk_ents (HCHK.out rfl)
    obtain ⟨ae, ce, hve⟩ := sl_len HGO0.out.ve
    have hent := HGO0.out.ve
    have heo := HGO0.out.ok.ents
    have hRL := HRL.out
    rw [if_pos rfl] at hRL
    rw [hve] at c2 hent
    have HENT := Lib.hid hent
    have HEO := Lib.hid heo
    have HNM := Lib.hid hnm
    generalize d.o.ents = es at *
    have hcap := sl_cap hent
    clear hent heo hnm hve
    have HIN : 1 < lv ∧ es = [] ∨ ¬ (es = [] ∧ 1 < lv) := by
      by_cases h1 : es = [] ∧ 1 < lv
      · exact .inl ⟨h1.2, h1.1⟩
      · exact .inr h1
    rcases HIN with ⟨hl1, rfl⟩ | hin
    · rw [if_pos ⟨rfl, hl1⟩] at hRL
      subst hRL
      have hlt : decide (1 < lv) = true := decide_eq_true hl1
      go_wp2_with fail
      exact bodyPost_ret (results_t rfl _ _) rfl ⟨rfl, _, own3.out, bL3.out, HOK.out, HFS.out, HX3.out, hws⟩
    · rw [if_neg hin] at hRL
      have HRL2 := Lib.hid hRL
      have hpk : es.length = 0 → lv ≤ 1 := fun h0 => by
        have := List.eq_nil_of_length_eq_zero h0
        by_cases h1 : 1 < lv
        · exact absurd ⟨this, h1⟩ hin
        · omega
      clear hRL hin
      have hcut : (es.length = 0 ∧ lv = 1) ∨ 0 < es.length := by
        by_cases h0 : es.length = 0
        · exact .inl ⟨h0, by have := hpk h0; omega⟩
        · exact .inr (by omega)
      clear hpk
      refine wp_forgetH (fun W => W = w3) rfl ?_
      rintro w4 rfl
      rcases hcut with ⟨h0, rfl⟩ | h0
      · obtain rfl := List.eq_nil_of_length_eq_zero h0
        have hRL : R = (0, fs) := by rw [HRL2.out]; rfl
        subst hRL
        go_wp2_with fail
        go_loopg [36] 0 (fun g s36 wr => s36 = .int .i64 0 ∧ wr = w4)
        case atStart => exact ⟨rfl, rfl⟩
        case round =>
        obtain ⟨rfl, rfl⟩ := hrel
        go_wp2_with fail
        exact bodyPost_ret (results_t rfl _ _) rfl ⟨rfl, _, own3.out, bL3.out, HOK.out, HFS.out, HX3.out, hws⟩
      · have h0' : decide ((es.length : Int) = 0) = false := decide_eq_false (by omega)
        go_upto_region 6 with fail
        go_wp2_with fail
        clear h0'
        go_loopg [36] es.length (fun g s36 wr => ∃ (j : Nat) (fv' : Value) (fs' : List Fl), j ≤ es.length ∧ es.length - j ≤ g ∧ s36 = .int .i64 (j : Int) ∧ R = entsL ds (rc ds) head (es.drop j) fs' ∧ wr.ownsRow base 66 2 fv' fs'.length (fs'.flatMap flC) ∧ ldr wr L hv fv' ∧ (∀ f ∈ fs', flOk f) ∧ fs'.length ≤ 16 ∧ Ext W0 wr ∧ w4.heap.size ≤ wr.heap.size)
        case atStart => exact ⟨0, fv, fs, Nat.zero_le _, by omega, rfl, by rw [HRL2.out]; rfl, own3.out, bL3.out, HOK.out, HFS.out, HX3.out, Nat.le_refl _⟩
        case round =>
        obtain ⟨j, fv', fs', hj, hg2, rfl, hRj, ownj, bLj, okj, hfsj, xj, szj⟩ := hrel
        have HOJ := Lib.hid ownj
        have HLJ := Lib.hid bLj
        have HKJ := Lib.hid okj
        have HFJ := Lib.hid hfsj
        have HXJ := Lib.hid xj
        have HRJ := Lib.hid hRj
        clear ownj bLj okj hfsj xj hRj c2
        by_cases hjl : j < es.length
        · have hdr : es.drop j = es[j] :: es.drop (j + 1) := List.drop_eq_getElem_cons hjl
          obtain ⟨pb, of, rfl, hra⟩ := ent_at (HENT.out.ext HXJ.out) HEO.out j hjl
          have heok := HEO.out _ (List.getElem_mem hjl)
          have hxn := HNM.out _ (List.getElem_mem hjl)
          have hRj := HRJ.out
          rw [hdr] at hRj
          generalize es[j] = x at *
          have HRJ2 := Lib.hid hRj
          have hie := info_ent heok
          have hoe := one_ent x
          have hsx : (entC x).toArray.size = 34 := by rw [List.size_toArray]; exact entC_len heok
          have hiel : (Tryz.prog.info? 80).map (·.size) = some (entC x).length := ent_info heok
          have HRA := Lib.hid hra
          have j0 : (0 : Int) ≤ (j : Int) := Int.natCast_nonneg _
          have j1 : (j : Int) < (es.length : Int) := by omega
          clear hRj hdr hra
          go_upto_region 9 with (first
            | ((with_reducible refine at_load 80 (.tmp 38) ?_); refine wpl_mid (by rfl) 80 (.tmp 38) rfl pb (of + j * 34) (by rfl) (entC x) _ HRA.out Tryz.underlying80 rfl hiel ?_)
            | ((with_reducible refine at_store 80 (.tmp 12) (.tmp 39) ?_); refine wpl_store (by rfl) 80 (.tmp 12) (.tmp 39) rfl _ (entC x).toArray (by rfl) (by rfl) 80 _ (heap_alloc_new _ _) hie (by rw [hsx]; rfl) hoe ?_; rw [World.setRow_alloc_new]))
          obtain ⟨XB, hXB⟩ : ∃ XB, wr.heap.size = XB := ⟨_, rfl⟩
          rw [hXB]
          refine wp_forgetH (fun W => Ext wr W ∧ W.heap[XB]? = some (.cells (entC x).toArray 80 (0, 0))) ⟨(Ext.refl wr).alloc _, blk_new hXB⟩ ?_
          rintro w5 ⟨x5, bX⟩
          have e0 : w5.cell? ⟨XB, 0, none⟩ = some (.string x.name) := by rw [block_cell bX]; rfl
          have e1 : w5.cell? ⟨XB, 1, none⟩ = some (.bool x.folder) := by rw [block_cell bX]; rfl
          have e2 : w5.rangeAt XB 2 (x.id.map bc) := fun k v hk => by rw [block_cell bX]; show (entC x).toArray[2 + k]? = some v; rw [Nat.add_comm]; simpa [entC] using hk
          have hidx : x.id.length = 32 := heok.1
          have hixi := id_info hidx
          have hsn := name_size hxn
          have X5 := Lib.hid (HXJ.out.trans x5)
          have own5 := Lib.hid (ownsRow_ext HOJ.out x5)
          have bL5 := Lib.hid (x5.keeps HLJ.out)
          have hw5 : w4.heap.size ≤ w5.heap.size := by have := x5.size; omega
          clear hie hoe hiel bX
          cases hxf : x.folder with
          | true =>
            rw [hxf] at e1
            have hRx : R = if (rc ds x.id (head ++ x.name ++ ⟨#[47]⟩) fs').1 = 0 then entsL ds (rc ds) head (es.drop (j + 1)) (rc ds x.id (head ++ x.name ++ ⟨#[47]⟩) fs').2 else rc ds x.id (head ++ x.name ++ ⟨#[47]⟩) fs' := by rw [HRJ2.out]; show entsL ds (rc ds) head (x :: es.drop (j + 1)) fs' = _; rw [entsL, if_pos hxf]
            have HRX := Lib.hid hRx
            clear hRx hxf
            rcases HRC.out with ⟨rfl, rfl⟩ | ⟨hlv, hcc⟩
            · have hRR : R = (170, fs') := by rw [HRX.out]; unfold noF; rfl
              subst hRR
              go_wp2_with fail
              exact bodyPost_ret (results_t rfl _ _) rfl ⟨rfl, _, own5.out, bL5.out, HKJ.out, HFJ.out, X5.out, Nat.le_trans hws hw5⟩
            · have hq4 : decide (lv = 4) = false := decide_eq_false (by omega)
              have hq5 : (lv == 4) = false := by simp; omega
              have HCC := Lib.hid hcc
              clear hcc
              go_upto_region 12 with fail
              go_wp2_with ((with_reducible refine at_load 31 (.tmp 45) ?_); refine wpl_mid (by rfl) 31 (.tmp 45) rfl XB 2 (by rfl) (x.id.map bc) _ e2 Tryz.underlying31 rfl hixi ?_)
              have hhs := headS head x.name
              have hbs : base ≤ w5.heap.size := by omega
              have hls : ((head ++ x.name ++ ⟨#[47]⟩ : ByteArray).size : Int) ≤ 64 * (lv + 1) := by omega
              have hcal := HCC.out W0 w5 hv ds HH.out L base fv' fs' own5.out HKJ.out HFJ.out bL5.out X5.out hb hbs hL x.id hidx _ hls
              refine Calls.mono hcal ?_
              rintro e w6 ⟨rfl, fv6, own6, bL6, ok6, hf6, x6, s6⟩
              generalize rc ds x.id (head ++ x.name ++ ⟨#[47]⟩) fs' = r6 at *
              obtain ⟨re, rf⟩ := r6
              have hRx := HRX.out
              have HO6 := Lib.hid own6
              have HL6 := Lib.hid bL6
              have HK6 := Lib.hid ok6
              have HF6 := Lib.hid hf6
              have HX6 := Lib.hid x6
              simp only at hRx HO6 HK6 HF6
              clear own6 bL6 ok6 hf6 x6
              by_cases hre : re = 0
              · subst hre
                rw [if_pos rfl] at hRx
                have HRR := Lib.hid hRx
                clear hRx
                go_wp2_with fail
                go_roundg (es.length - (j + 1))
                case measure => omega
                case rel => exact ⟨j + 1, fv6, rf, by omega, by omega, by go_num, HRR.out, HO6.out, HL6.out, HK6.out, HF6.out, HX6.out, by omega⟩
              · have hge1 : (re != 0) = true := by simpa using hre
                have hge2 : (re == 0) = false := by simpa using hre
                rw [if_neg hre] at hRx
                clear hre
                subst hRx
                go_wp2_with fail
                exact bodyPost_ret (results_t rfl _ _) rfl ⟨rfl, _, HO6.out, HL6.out, HK6.out, HF6.out, HX6.out, by omega⟩
          | false =>
            rw [hxf] at e1
            have hRx : R = if (gtH ds x.id 1).1 = 0 then (if fs'.length = 16 then (170, fs') else entsL ds (rc ds) head (es.drop (j + 1)) (fs' ++ [⟨head ++ x.name, lB (gtH ds x.id 1).2.o.bytes⟩])) else ((gtH ds x.id 1).1, fs') := by rw [HRJ2.out]; show entsL ds (rc ds) head (x :: es.drop (j + 1)) fs' = _; rw [entsL, if_neg (by rw [hxf]; decide)]
            have HRX := Lib.hid hRx
            clear hRx hxf
            go_wp2_with ((with_reducible refine at_load 31 (.tmp 60) ?_); refine wpl_mid (by rfl) 31 (.tmp 60) rfl XB 2 (by rfl) (x.id.map bc) _ e2 Tryz.underlying31 rfl hixi ?_)
            refine Calls.mono (getC w5 L hv fv' ds (HH.out.ext X5.out) bL5.out x.id hidx 1 (by omega)) ?_
            rintro e w6 ⟨rfl, x6⟩
            have hgo := gtH_obj (HH.out.ext (X5.out.trans x6)) x.id 1
            have hgo0 := gtH_obj HH.out x.id 1
            have hRx := HRX.out
            have hchk := @gtH_chk ds x.id 1
            generalize gtH ds x.id 1 = g at *
            obtain ⟨ge, d6⟩ := g
            simp only at hgo hgo0 hRx hchk
            have HRX6 := Lib.hid hRx
            have HGO := Lib.hid hgo0
            have HCHK6 := Lib.hid hchk
            clear hRx hgo0 hchk
            have hia : (Tryz.prog.info? 45).map (·.size) = some (hdV d6).obj.toArray.size := hgo.info
            have hsz : (hdV d6).obj.toArray.size = 38 := hgo.size
            have hone : (hdV d6).obj.toArray.all (·.oneCell') = true := by
              rw [Array.all_eq_true_iff_forall_mem]
              intro v hv
              have := (obj_hdOk hgo z32 rfl).one v (by simpa using hv)
              exact this
            clear hgo
            go_upto_region 16 with ((with_reducible refine at_store 45 (.tmp 14) (.tmp 63) ?_); refine wpl_store (by rfl) 45 (.tmp 14) (.tmp 63) rfl _ (hdV d6).obj.toArray (by rfl) (by rfl) 45 _ (heap_alloc_new _ _) hia (by rw [hsz]; rfl) hone ?_; rw [World.setRow_alloc_new])
            obtain ⟨M6, hM6⟩ : ∃ M6, w6.heap.size = M6 := ⟨_, rfl⟩
            rw [hM6]
            refine wp_forgetH (fun W => Ext w6 W ∧ W.heap[M6]? = some (.cells (hdV d6).obj.toArray 45 (0, 0))) ⟨(Ext.refl w6).alloc _, blk_new hM6⟩ ?_
            rintro w7 ⟨x7, bM7⟩
            have xx := x6.trans x7
            have X7 := Lib.hid (X5.out.trans xx)
            have own7 := Lib.hid (ownsRow_ext own5.out xx)
            have bL7 := Lib.hid (xx.keeps bL5.out)
            have hw7 : w4.heap.size ≤ w7.heap.size := by have := xx.size; omega
            have e07 := xx.cell e0
            have hoA := obj_at bM7 rfl HGO.out.ok
            obtain ⟨_, f1, _⟩ := hoA
            clear x6 x7 xx bM7 hone hsz hia hixi e0 e1 e2
            by_cases hge : ge = 0
            · subst hge
              have hRx := HRX6.out
              rw [if_pos rfl] at hRx
              have own7o := own7.out
              have bL7o : w7.heap[L]? = some (.cells #[hv, fv'] 98 (0, 0)) := bL7.out
              obtain ⟨af, cf, hfv⟩ := ownSh own7o
              have hneL := own_neH own7o bL7o (by decide)
              have HNE := Lib.hid hneL
              have hfb := own7o.lt
              have HFB := Lib.hid hfb
              rw [hfv] at bL7o
              have HFV := Lib.hid hfv
              have HBL := Lib.hid bL7o
              clear own7o hneL hfb hfv
              by_cases h16 : fs'.length = 16
              · rw [if_pos h16] at hRx
                have h16b : decide ((fs'.length : Int) = 16) = true := decide_eq_true (by omega)
                have HRR := Lib.hid hRx
                have kL := block_allH bL7o
                have H16 := Lib.hid h16
                clear hRx h16
                rw [show fs'.length = 16 from H16.out] at kL
                go_wp2_with fail
                rw [HRR.out]
                exact bodyPost_ret (results_t rfl _ _) rfl ⟨rfl, _, own7.out, bL7.out, HKJ.out, HFJ.out, X7.out, Nat.le_trans hws hw7⟩
              · rw [if_neg h16] at hRx
                have h16b : decide ((fs'.length : Int) = 16) = false := decide_eq_false (by omega)
                have HRR := Lib.hid hRx
                have KL := fun v (h : Ext w7 v) => block_allH (h.keeps HBL.out)
                have kL := block_allH bL7o
                have KC := fun v (h : Ext w7 v) => conv_str (P := Tryz.prog) (HGO.out.vb.ext (X7.out.trans h)) 40 9 5 Tryz.underlying40 Tryz.underlying5 Tryz.underlying9
                have hfl16 := HFJ.out
                have h15 : fs'.length ≤ 15 := by omega
                obtain ⟨NF, hNF⟩ : ∃ NF : Fl, NF = ⟨head ++ x.name, lB d6.o.bytes⟩ := ⟨_, rfl⟩
                have HNF := Lib.hid hNF
                have hwb : base ≤ w7.heap.size := by omega
                have hcs : ¬ 9223372036854775807 < head.size + x.name.size := by omega
                clear hRx h16 hfl16 hNF bL7o
                go_wp2_with fail
                clear kL
                refine wp_region_G 15 (fun v => Ext w7 v) (by kernel_rfl) fun wd hqd hHeld => ?_
                refine G_pure (i := 0) (u := ?vap0) rfl (by kernel_rfl) (by kernel_rfl) (by kernel_rfl) (fun _ _ _ h => h) (by decide) (Or.inl ⟨by rfl, ?hyap0⟩) hHeld ?_
                case hyap0 => (intro w hSw; go_simp; try with_reducible rfl)
                simp only [Act.put, List.setIfInBounds_toArray, List.set_cons_zero, List.set_cons_succ, List.getElem_toArray, List.getElem_cons_zero, List.getElem_cons_succ]
                refine G_pure (i := 1) (u := ?vap1) rfl (by kernel_rfl) (by kernel_rfl) (by kernel_rfl) (fun _ _ _ h => h) (by decide) (Or.inl ⟨by rfl, ?hyap1⟩) hHeld ?_
                case hyap1 => (intro w hSw; go_simp; try with_reducible rfl)
                simp only [Act.put, List.setIfInBounds_toArray, List.set_cons_zero, List.set_cons_succ, List.getElem_toArray, List.getElem_cons_zero, List.getElem_cons_succ]
                refine G_pure (i := 2) (u := ?vap2) rfl (by kernel_rfl) (by kernel_rfl) (by kernel_rfl) (fun _ _ _ h => h) (by decide) (Or.inl ⟨by rfl, ?hyap2⟩) hHeld ?_
                case hyap2 => (intro w hSw; go_simp; try with_reducible rfl)
                simp only [Act.put, List.setIfInBounds_toArray, List.set_cons_zero, List.set_cons_succ, List.getElem_toArray, List.getElem_cons_zero, List.getElem_cons_succ]
                refine G_pure (i := 3) (u := ?vap3) rfl (by kernel_rfl) (by kernel_rfl) (by kernel_rfl) (fun _ _ _ h => h) (by decide) (Or.inl ⟨by rfl, ?hyap3⟩) hHeld ?_
                case hyap3 => (intro w hSw; go_simp; try with_reducible rfl)
                simp only [Act.put, List.setIfInBounds_toArray, List.set_cons_zero, List.set_cons_succ, List.getElem_toArray, List.getElem_cons_zero, List.getElem_cons_succ]
                refine G_pure (i := 4) (u := ?vap4) rfl (by kernel_rfl) (by kernel_rfl) (by kernel_rfl) (fun _ _ _ h => h) (by decide) (Or.inl ⟨by rfl, ?hyap4⟩) hHeld ?_
                case hyap4 => (intro w hSw; go_simp; try with_reducible rfl)
                simp only [Act.put, List.setIfInBounds_toArray, List.set_cons_zero, List.set_cons_succ, List.getElem_toArray, List.getElem_cons_zero, List.getElem_cons_succ]
                refine G_take (i := 5) (u := ?vap5) rfl (by kernel_rfl) (by kernel_rfl) (by kernel_rfl) (fun _ _ _ h => h) rfl (by kernel_rfl) (by decide) (by rfl) (Or.inl ⟨by rfl, ?hyap5⟩) hHeld ?_
                case hyap5 => (intro w hSw; have kk := KL _ hSw; go_simp; try with_reducible rfl)
                simp only [Act.put, List.setIfInBounds_toArray, List.set_cons_zero, List.set_cons_succ, List.getElem_toArray, List.getElem_cons_zero, List.getElem_cons_succ]
                refine G_pure (i := 6) (u := ?vap6) rfl (by kernel_rfl) (by kernel_rfl) (by kernel_rfl) (fun _ _ _ h => h) (by decide) (Or.inl ⟨by rfl, ?hyap6⟩) hHeld ?_
                case hyap6 => (intro w hSw; go_simp; try with_reducible rfl)
                simp only [Act.put, List.setIfInBounds_toArray, List.set_cons_zero, List.set_cons_succ, List.getElem_toArray, List.getElem_cons_zero, List.getElem_cons_succ]
                refine G_pure (i := 7) (u := ?vap7) rfl (by kernel_rfl) (by kernel_rfl) (by kernel_rfl) (fun _ _ _ h => h) (by decide) (Or.inl ⟨by rfl, ?hyap7⟩) hHeld ?_
                case hyap7 => (intro w hSw; go_simp; try with_reducible rfl)
                simp only [Act.put, List.setIfInBounds_toArray, List.set_cons_zero, List.set_cons_succ, List.getElem_toArray, List.getElem_cons_zero, List.getElem_cons_succ]
                refine C_take (i := 8) (u := ?vap8) [9, 13, 14, 15] rfl (by kernel_rfl) (by kernel_rfl) (by kernel_rfl) (fun _ _ _ h => h) (by kernel_rfl) (by kernel_rfl) (by kernel_rfl) (by kernel_rfl) (Or.inl ⟨by rfl, ?hyap8⟩) hHeld ?_
                case hyap8 => (intro w hSw; have kk := hSw.cell e07; go_simp; try with_reducible rfl)
                simp only [Act.put, List.setIfInBounds_toArray, List.set_cons_zero, List.set_cons_succ, List.getElem_toArray, List.getElem_cons_zero, List.getElem_cons_succ]
                refine C_take (i := 9) (u := ?vap9) [13, 14, 15] rfl (by kernel_rfl) (by kernel_rfl) (by kernel_rfl) (fun _ _ _ h => h) (by kernel_rfl) (by kernel_rfl) (by kernel_rfl) (by kernel_rfl) (Or.inl ⟨by rfl, ?hyap9⟩) hHeld ?_
                case hyap9 => (intro w hSw; have kk := hcs; go_simp; try with_reducible rfl)
                simp only [Act.put, List.setIfInBounds_toArray, List.set_cons_zero, List.set_cons_succ, List.getElem_toArray, List.getElem_cons_zero, List.getElem_cons_succ]
                refine G_pure (i := 10) (u := ?vap10) rfl (by kernel_rfl) (by kernel_rfl) (by kernel_rfl) (fun _ _ _ h => h) (by decide) (Or.inl ⟨by rfl, ?hyap10⟩) hHeld ?_
                case hyap10 => (intro w hSw; go_simp; try with_reducible rfl)
                simp only [Act.put, List.setIfInBounds_toArray, List.set_cons_zero, List.set_cons_succ, List.getElem_toArray, List.getElem_cons_zero, List.getElem_cons_succ]
                refine C_take (i := 11) (u := ?vap11) [12, 13, 14, 15] rfl (by kernel_rfl) (by kernel_rfl) (by kernel_rfl) (fun _ _ _ h => h) (by kernel_rfl) (by kernel_rfl) (by kernel_rfl) (by kernel_rfl) (Or.inl ⟨by rfl, ?hyap11⟩) hHeld ?_
                case hyap11 => (intro w hSw; have kk := hSw.cell f1; go_simp; try with_reducible rfl)
                simp only [Act.put, List.setIfInBounds_toArray, List.set_cons_zero, List.set_cons_succ, List.getElem_toArray, List.getElem_cons_zero, List.getElem_cons_succ]
                refine C_take (i := 12) (u := ?vap12) [13, 14, 15] rfl (by kernel_rfl) (by kernel_rfl) (by kernel_rfl) (fun _ _ _ h => h) (by kernel_rfl) (by kernel_rfl) (by kernel_rfl) (by kernel_rfl) (Or.inl ⟨by rfl, ?hyap12⟩) hHeld ?_
                case hyap12 => (intro w hSw; have kk := KC _ hSw; go_simp; try with_reducible rfl)
                simp only [Act.put, List.setIfInBounds_toArray, List.set_cons_zero, List.set_cons_succ, List.getElem_toArray, List.getElem_cons_zero, List.getElem_cons_succ]
                refine G_pure (i := 13) (u := ?vap13) rfl (by kernel_rfl) (by kernel_rfl) (by kernel_rfl) (fun _ _ _ h => h) (by decide) (Or.inl ⟨by rfl, ?hyap13⟩) hHeld ?_
                case hyap13 => (intro w hSw; go_simp; try with_reducible rfl)
                simp only [Act.put, List.setIfInBounds_toArray, List.set_cons_zero, List.set_cons_succ, List.getElem_toArray, List.getElem_cons_zero, List.getElem_cons_succ]
                refine G_all (rs := [14]) (by kernel_rfl) (by simp) ?_
                intro i hi; obtain rfl : i = 14 := by simpa using hi
                refine wpOp_run rfl (by rfl) ?_
                refine wp_buildOne 22 (.tmp 88) rfl (flC NF) (by rw [HNF.out]; rfl) (build_fl _ NF) ?_
                have xb : Ext wd (wd.alloc (.cells (flC NF).toArray 66)) := (Ext.refl wd).alloc _
                have hHeld0 := hHeld
                have hHeld := hHeld.trans xb
                first | refine ⟨fun _ => hHeld, ?_⟩ | refine ⟨hHeld, ?_⟩ | skip
                try simp only [Act.put, List.setIfInBounds_toArray, List.set_cons_zero, List.set_cons_succ, List.getElem_toArray, List.getElem_cons_zero, List.getElem_cons_succ]
                refine G_all (rs := [15]) (by kernel_rfl) (by simp) ?_
                intro i hi; obtain rfl : i = 15 := by simpa using hi
                refine wpOp_run rfl (by rfl) ?_
                refine wp_appO tyF (.tmp 80) (.tmp 89) rfl base fv' fs'.length _ (ownsRow_ext own7.out hHeld) (by rw [HFV.out]; rfl) _ 1 (flC NF) (sl_one_new (w := wd) (n := 2) (e := 66) (Q := flC NF) rfl rfl) (by rfl) (flC_one1 NF) (by omega) (by omega) (Nat.le_trans hwb hHeld.size) ?_
                intro v9 w9 own9 gr9
                obtain ⟨a9, c9, rfl⟩ := ownSh own9
                have bL9 := grown_keep gr9 (hHeld.keeps HBL.out) HNE.out
                try refine ⟨fun e => absurd e (by decide), ?_⟩
                refine G_free _ _ _ _ (by kernel_rfl) ?_
                try simp only [Act.put, List.setIfInBounds_toArray, List.set_cons_zero, List.set_cons_succ, List.getElem_toArray, List.getElem_cons_zero, List.getElem_cons_succ]
                refine wpAny_take (i := 16) (v := ?vap16) rfl (by kernel_rfl) (by kernel_rfl) (by kernel_rfl) (fun _ _ _ h => h) (Or.inl ⟨by rfl, ?hyap16⟩) ?_
                case hyap16 => (intro w ; go_simp; try with_reducible rfl)
                simp only [Act.put, List.setIfInBounds_toArray, List.set_cons_zero, List.set_cons_succ, List.getElem_toArray, List.getElem_cons_zero, List.getElem_cons_succ]
                refine wpAny_take (i := 17) (v := ?vap17) rfl (by kernel_rfl) (by kernel_rfl) (by kernel_rfl) (fun _ _ _ h => h) (Or.inl ⟨by rfl, ?hyap17⟩) ?_
                case hyap17 => (intro w ; go_simp; try with_reducible rfl)
                simp only [Act.put, List.setIfInBounds_toArray, List.set_cons_zero, List.set_cons_succ, List.getElem_toArray, List.getElem_cons_zero, List.getElem_cons_succ]
                refine wpAny_take (i := 18) (v := ?vap18) rfl (by kernel_rfl) (by kernel_rfl) (by kernel_rfl) (fun _ _ _ h => h) (Or.inl ⟨by rfl, ?hyap18⟩) ?_
                case hyap18 => (intro w ; go_simp; try with_reducible rfl)
                simp only [Act.put, List.setIfInBounds_toArray, List.set_cons_zero, List.set_cons_succ, List.getElem_toArray, List.getElem_cons_zero, List.getElem_cons_succ]
                refine wpAny_all (rs := [19]) (by kernel_rfl) (by simp) ?_
                intro i hi; obtain rfl : i = 19 := by simpa using hi
                refine wpOp_run rfl (by rfl) ?_
                have kk := block_allH bL9
                have ff := fun i => block_free bL9 i
                go_simp
                try simp only [Act.put, List.setIfInBounds_toArray, List.set_cons_zero, List.set_cons_succ, List.getElem_toArray, List.getElem_cons_zero, List.getElem_cons_succ]
                refine wpAny_done (by kernel_rfl) ?_ _
                refine NoPanic.normal ?_
                have g10 : w9.grownBy (w9.setCell ⟨L, 1, none⟩ (.slice a9 (fs'.length + 1) c9)) (some L) := grown_setCell _ _ _ _
                have bL10 : (w9.setCell ⟨L, 1, none⟩ (.slice a9 (fs'.length + 1) c9)).heap[L]? = some (.cells #[hv, .slice a9 (fs'.length + 1) c9] 98 (0, 0)) := by
                  have := block_setCell bL9 (i := 1) (.slice a9 (fs'.length + 1) c9)
                  simpa using this
                have n9 := own_neH own9 bL9 (by decide)
                have own10 := ownsRow_grown own9 g10 n9
                have HEXT : Ext w7 (wd.alloc (.cells (flC NF).toArray 66)) := hHeld
                have x10 : Ext W0 (w9.setCell ⟨L, 1, none⟩ (.slice a9 (fs'.length + 1) c9)) := ((X7.out.trans HEXT).grown gr9 (fun k hk => by have := (HFB.out k hk).1; omega)).grown g10 (fun k hk => by cases hk; omega)
                have s10 : w7.heap.size ≤ (w9.setCell ⟨L, 1, none⟩ (.slice a9 (fs'.length + 1) c9)).heap.size := Nat.le_trans HEXT.size (Nat.le_trans gr9.size g10.size)
                generalize w9.setCell ⟨L, 1, none⟩ (.slice a9 (fs'.length + 1) c9) = w10 at *
                have HO10 := Lib.hid own10
                have HL10 := Lib.hid bL10
                have HX10 := Lib.hid x10
                clear kk ff own9 bL9 gr9 g10 n9 own10 bL10 x10
                have hbt := (chk_ents (HCHK6.out trivial)).2.2
                have hflk : flOk NF := by
                  rw [HNF.out]
                  refine ⟨?_, ?_⟩
                  · show (head ++ x.name : ByteArray).size ≤ _
                    rw [ByteArray.size_append]
                    omega
                  · show (lB d6.o.bytes).size ≤ _
                    have : (lB d6.o.bytes).size = d6.o.bytes.length := by unfold lB; exact List.size_toArray
                    omega
                have HFK := Lib.hid hflk
                clear hflk hbt
                go_wp2_with fail
                go_roundg (es.length - (j + 1))
                case measure => omega
                case rel =>
                  refine ⟨j + 1, _, fs' ++ [NF], by omega, by omega, by go_num, by rw [HRR.out, HNF.out], ?_, HL10.out, ?_, by simp; omega, HX10.out, by omega⟩
                  · have := HO10.out
                    simpa using this
                  · intro f hf
                    rcases List.mem_append.1 hf with q | q
                    · exact HKJ.out f q
                    · rw [List.mem_singleton.1 q]; exact HFK.out
            · have hge1 : (ge != 0) = true := by simpa using hge
              have hge2 : (ge == 0) = false := by simpa using hge
              have hRx := HRX6.out
              rw [if_neg hge] at hRx
              clear hge
              subst hRx
              go_wp2_with fail
              exact bodyPost_ret (results_t rfl _ _) rfl ⟨rfl, _, own7.out, bL7.out, HKJ.out, HFJ.out, X7.out, Nat.le_trans hws hw7⟩
        · have ej : j = es.length := by omega
          have hRj := HRJ.out
          rw [ej, List.drop_length] at hRj
          obtain rfl : R = (0, fs') := hRj
          go_wp2_with fail
          exact bodyPost_ret (results_t rfl _ _) rfl ⟨rfl, _, HOJ.out, HLJ.out, HKJ.out, HFJ.out, HXJ.out, Nat.le_trans hws szj⟩
  · have hge1 : (ge != 0) = true := by simpa using hge
    have hge2 : (ge == 0) = false := by simpa using hge
    have hRL := HRL.out
    rw [if_neg hge] at hRL
    clear hge
    subst hRL
    go_wp2_with fail
    exact bodyPost_ret (results_t rfl _ _) rfl ⟨rfl, _, own3.out, bL3.out, HOK.out, HFS.out, HX3.out, hws⟩
end Go.Proofs.YtpadfabjihaapaaGreatDoor

namespace Go.Proofs.YtpadfabjihaapaaGreatDoor
open Go.RowKit
set_option linter.unusedVariables false
set_option linter.unusedSimpArgs false

theorem loadC4 : LoadC 4 load4 := loadStep 4 noF (by omega) (by omega) (.inl ⟨rfl, rfl⟩)
theorem loadC3 : LoadC 3 load3 := loadStep 3 load4 (by omega) (by omega) (.inr ⟨by omega, loadC4⟩)
theorem loadC2 : LoadC 2 load2 := loadStep 2 load3 (by omega) (by omega) (.inr ⟨by omega, loadC3⟩)
theorem loadC1 : LoadC 1 load1 := loadStep 1 load2 (by omega) (by omega) (.inr ⟨by omega, loadC2⟩)
/-- What tree.Load may answer. -/
def LoadR (ds : List HdV) (id : List UInt8) (l : List Fl) (en : Int) : Prop :=
  ((load1 ds id ⟨#[]⟩ []).1 ≠ 0 ∧ l = [] ∧ en = (load1 ds id ⟨#[]⟩ []).1) ∨
  ((load1 ds id ⟨#[]⟩ []).1 = 0 ∧ ∃ l', l'.Perm (load1 ds id ⟨#[]⟩ []).2 ∧ l'.Pairwise (fun a b => nl b.path a.path = false) ∧ ((repoB l' = true ∧ l = l' ∧ en = 0) ∨ (repoB l' = false ∧ l = [] ∧ en = 170)))
theorem infoRp (v : Value) : (Tryz.prog.info? 24).map (·.size) = some (#[v] : Array Value).size := by show _ = some 1; kernel_rfl
set_option maxHeartbeats 4000000 in
set_option maxRecDepth 100000 in
theorem loadTree (w : World) (hv : Value) (ds : List HdV) (h : HdL w hv ds) (id : List UInt8) (hid : id.length = 32) :
    Calls Tryz.prog 27 #[.agg #[hv], .agg (id.map bc).toArray] w fun e w' => ∃ v l en, e = .returned (.tuple #[.agg #[v], .int .i64 en]) ∧ LoadR ds id l en ∧ IsF w' v l ∧ Ext w w' := by
  have HH := Lib.hid h
  have hii := id_info hid
  obtain ⟨ah, ch, e⟩ := sl_len h.sl.sl
  rw [List.length_map] at e
  subst e
  clear h
  go_enter Tryz.func27, Tryz.ntmps27
  go_upto_region 1 with fail
  obtain ⟨G, hG⟩ : ∃ G, w.heap.size = G := ⟨_, rfl⟩
  rw [hG]
  refine wp_forgetH (fun W => Ext w W ∧ W.heap[G]? = some (.cells #[.slice ah ds.length ch] 29 (0, 0)) ∧ W.heap[G + 1]? = some (.cells (id.map bc).toArray 31 (0, 0)) ∧ W.heap[G + 1 + 1]? = some (.cells #[nilS] 24 (0, 0))) (new3 hG _ _ _) ?_
  rintro w1 ⟨x1, bH, bI, bP⟩
  have hw1 : G + 3 ≤ w1.heap.size := block_lt bP
  go_upto_region 2 with ((with_reducible refine at_load 29 (.tmp 2) ?_); refine wpl_load (by rfl) 29 (.tmp 2) rfl G (by rfl) 29 #[.slice ah ds.length ch] (0, 0) _ bH Tryz.underlying29 rfl (infoHp _) ?_)
  obtain ⟨L, hL⟩ : ∃ L, w1.heap.size = L := ⟨_, rfl⟩
  rw [hL]
  refine wp_forgetH (fun W => Ext w1 W ∧ ldr W L (.slice ah ds.length ch) nilS) ⟨(Ext.refl w1).alloc _, blk_new hL⟩ ?_
  rintro w2 ⟨x2, bL⟩
  go_wp2_with ((with_reducible refine at_load 31 (.tmp 3) ?_); refine wpl_mid (by rfl) 31 (.tmp 3) rfl (G + 1) 0 (by rfl) (id.map bc) _ (range_blk (x2.keeps bI)) Tryz.underlying31 rfl hii ?_)
  refine Calls.mono (loadC1 w1 w2 (.slice ah ds.length ch) ds (HH.out.ext x1) L L nilS [] (World.ownsRow_nil _ _ _ _) (fun f hf => by cases hf) (by decide) bL x2 (by omega) (by have := block_lt bL; omega) (by omega) id hid ⟨#[]⟩ (by decide)) ?_
  rintro e w3 ⟨rfl, fv, own3, bL3, ok3, hf3, x3, s3⟩
  obtain ⟨R, hR⟩ : ∃ R, load1 ds id ⟨#[]⟩ [] = R := ⟨_, rfl⟩
  rw [hR] at own3 ok3 hf3 ⊢
  have HR := Lib.hid hR
  obtain ⟨re, fs⟩ := R
  simp only at own3 ok3 hf3
  have bP3 := x3.keeps bP
  have HOK := Lib.hid ok3
  have HOWN := Lib.hid own3
  have HF3 := Lib.hid hf3
  clear hR ok3 own3 hf3
  by_cases hre : re = 0
  · subst hre
    obtain ⟨af, cf, rfl⟩ := ownSh HOWN.out
    have kL := block_allH bL3
    go_wp2_with fail
    refine Calls.mono (sortFiles w3 L _ fs HOWN.out (by have := HF3.out; omega)) ?_
    rintro e w4 ⟨rfl, l', hperm, hsort, own4, gr4⟩
    have hlen := hperm.length_eq
    have hok4 : ∀ f ∈ l', flOk f := fun f hf => HOK.out f (hperm.mem_iff.1 hf)
    have bL4 : w4.heap[L]? = some (.cells #[.slice ah ds.length ch, .slice af fs.length cf] 98 (0, 0)) := grown_keep gr4 bL3 (own_neH HOWN.out bL3 (by decide))
    have x4 : Ext w1 w4 := x3.grown gr4 (fun k hk => by have := (HOWN.out.lt k hk).1; omega)
    have hF4 : IsF w4 (.slice af fs.length cf) l' := ⟨by rw [hlen]; exact IsSl.of_owns own4, hok4⟩
    have bP4 := x4.keeps bP
    have r4 : w4.rangeAt L 1 [.slice af fs.length cf] := fun k v hk => by
      rw [block_cell bL4]
      cases k with
      | zero => simpa using hk
      | succ k => simp at hk
    have HF4 := Lib.hid hF4
    have HO4 := Lib.hid own4
    have HPM := Lib.hid hperm
    have HST := Lib.hid hsort
    clear kL hperm hsort own4 gr4 hok4 hF4 bL3
    have hir : (Tryz.prog.info? 24).map (·.size) = some ([Value.slice af fs.length cf] : List Value).length := by show _ = some 1; kernel_rfl
    go_wp2_with ((with_reducible refine at_load 24 (.tmp 27) ?_); refine wpl_mid (by rfl) 24 (.tmp 27) rfl L 1 (by rfl) [.slice af fs.length cf] _ r4 Tryz.underlying24 rfl hir ?_)
    refine Calls.mono (treeCheck _ _ l' HF4.out) ?_
    rintro e w5 ⟨rfl, x5⟩
    have bP5 := x5.keeps bP4
    have r5 := rangeAt_ext r4 x5
    have XX := x1.trans (x4.trans x5)
    cases hrb : repoB l' with
    | false =>
      rw [show errR false = 170 from rfl]
      have hg : w5.grownBy (w5.setRow (G + 1 + 1) #[nilS]) (some (G + 1 + 1)) := grown_setRow'
      have f1 := setRow_heap w5 (G + 1 + 1) _ #[nilS] _ _ bP5
      have xF := XX.grown hg (fun k hk => by cases hk; omega)
      go_wp2_with ((with_reducible refine at_store 24 (.tmp 4) (.tmp 32) ?_); refine wpl_store (by rfl) 24 (.tmp 4) (.tmp 32) rfl (G + 1 + 1) #[nilS] (by rfl) (by rfl) 24 _ bP5 (infoRp _) rfl (by kernel_rfl) ?_)
      exact bodyPost_ret (results_ct (p := 4) (r := 5) rfl _ _ (G + 1 + 1) _ _ _ _ (by rfl) f1 Tryz.underlying24 rfl (infoRp _)) rfl ⟨nilS, [], 170, rfl, .inr ⟨by rw [HR.out], l', by rw [HR.out]; exact HPM.out, HST.out, .inr ⟨hrb, rfl, rfl⟩⟩, isF_nil _, xF⟩
    | true =>
      rw [show errR true = 0 from rfl]
      have hg : w5.grownBy (w5.setRow (G + 1 + 1) #[.slice af fs.length cf]) (some (G + 1 + 1)) := grown_setRow'
      have f1 := setRow_heap w5 (G + 1 + 1) _ #[.slice af fs.length cf] _ _ bP5
      have xF := XX.grown hg (fun k hk => by cases hk; omega)
      have hl4 := HF4.out.sl.ext x5
      have hF6 : IsF (w5.setRow (G + 1 + 1) #[.slice af fs.length cf]) (.slice af fs.length cf) l' := by
        refine ⟨?_, HF4.out.ok⟩
        have o5 := ownsRow_ext HO4.out x5
        rw [hlen]
        exact IsSl.of_owns (ownsRow_grown o5 hg (own_neH o5 bP5 (by decide)))
      go_wp2_with (first
        | ((with_reducible refine at_load 24 (.tmp 36) ?_); refine wpl_mid (by rfl) 24 (.tmp 36) rfl L 1 (by rfl) [.slice af fs.length cf] _ r5 Tryz.underlying24 rfl hir ?_)
        | ((with_reducible refine at_store 24 (.tmp 4) (.tmp 37) ?_); refine wpl_store (by rfl) 24 (.tmp 4) (.tmp 37) rfl (G + 1 + 1) #[.slice af fs.length cf] (by rfl) (by rfl) 24 _ bP5 (infoRp _) rfl (by kernel_rfl) ?_))
      exact bodyPost_ret (results_ct (p := 4) (r := 5) rfl _ _ (G + 1 + 1) _ _ _ _ (by rfl) f1 Tryz.underlying24 rfl (infoRp _)) rfl ⟨_, l', 0, rfl, .inr ⟨by rw [HR.out], l', by rw [HR.out]; exact HPM.out, HST.out, .inl ⟨hrb, rfl, rfl⟩⟩, hF6, xF⟩

  · have hge1 : (re != 0) = true := by simpa using hre
    have hge2 : (re == 0) = false := by simpa using hre
    have HRE := Lib.hid hre
    have hg : w3.grownBy (w3.setRow (G + 1 + 1) #[nilS]) (some (G + 1 + 1)) := grown_setRow'
    have f1 := setRow_heap w3 (G + 1 + 1) _ #[nilS] _ _ bP3
    have xF := (x1.trans x3).grown hg (fun k hk => by cases hk; omega)
    clear hre
    go_wp2_with ((with_reducible refine at_store 24 (.tmp 4) (.tmp 17) ?_); refine wpl_store (by rfl) 24 (.tmp 4) (.tmp 17) rfl (G + 1 + 1) #[nilS] (by rfl) (by rfl) 24 _ bP3 (infoRp _) rfl (by kernel_rfl) ?_)
    exact bodyPost_ret (results_ct (p := 4) (r := 5) rfl _ _ (G + 1 + 1) _ _ _ _ (by rfl) f1 Tryz.underlying24 rfl (infoRp _)) rfl ⟨nilS, [], re, rfl, .inl ⟨by rw [HR.out]; exact HRE.out, rfl, by rw [HR.out]⟩, isF_nil _, xF⟩
end Go.Proofs.YtpadfabjihaapaaGreatDoor

namespace Go.Proofs.YtpadfabjihaapaaGreatDoor
open Go.RowKit
set_option linter.unusedVariables false
set_option linter.unusedSimpArgs false

theorem sorted_uniq {α : Type} (p : α → ByteArray) : ∀ {l2 l1 : List α}, l1.Perm l2 → l1.Pairwise (fun a b => nl (p b) (p a) = false) → l2.Pairwise (fun a b => nl (p a) (p b) = true) → l1 = l2
  | [], l1, h, _, _ => h.eq_nil
  | x :: r, l1, h, h1, h2 => by
    cases l1 with
    | nil => exact absurd h.length_eq (by simp)
    | cons y s =>
      have h1' := List.pairwise_cons.1 h1
      have h2' := List.pairwise_cons.1 h2
      have e : y = x := by
        rcases List.mem_cons.1 (h.mem_iff.1 (List.mem_cons_self ..)) with q | q
        · exact q
        · rcases List.mem_cons.1 (h.mem_iff.2 (List.mem_cons_self ..)) with q2 | q2
          · exact q2.symm
          · have a := h2'.1 y q
            rw [h1'.1 x q2] at a
            cases a
      subst e
      rw [sorted_uniq p (List.Perm.cons_inv h) h1'.2 h2'.2]
theorem sortN_id {l : List ByteArray} (h : l.Pairwise (fun a b => nl b a = false)) : sortN l = l := by
  have : (l.map bL).mergeSort (fun x y => decide (x ≤ y)) = l.map bL := by
    apply List.mergeSort_of_pairwise
    rw [List.pairwise_map]
    refine h.imp ?_
    intro a b hab
    unfold nl at hab
    rw [bytesLess_eq, decide_eq_false_iff_not] at hab
    rw [decide_eq_true_eq]
    have ea : a.toList = bL a := ByteArray.toList_eq _
    have eb : b.toList = bL b := ByteArray.toList_eq _
    rw [ea, eb] at hab
    exact List.not_lt.1 hab
  unfold sortN
  rw [this, List.map_map]
  have e : lB ∘ bL = id := funext fun s => lB_bL s
  rw [e, List.map_id]
def bs (l : List UInt8) : ByteArray := ⟨l.toArray⟩
def nA : ByteArray := bs [97]
def nB : ByteArray := bs [98]
def nX : ByteArray := bs [120, 46, 103, 111]
def nY : ByteArray := bs [121, 46, 103, 111]
def tW : ByteArray := bs [49]
def pAX : ByteArray := bs [97, 47, 120, 46, 103, 111]
def pAY : ByteArray := bs [97, 47, 121, 46, 103, 111]
def pBX : ByteArray := bs [98, 47, 120, 46, 103, 111]
def wF : List Fl := [⟨pAX, tW⟩, ⟨pAY, tW⟩, ⟨pBX, tW⟩]
def i1 : List UInt8 := [124, 75, 76, 11, 172, 179, 207, 237, 223, 76, 186, 183, 133, 184, 138, 209, 36, 69, 72, 57, 233, 199, 246, 229, 148, 94, 217, 2, 232, 49, 68, 105]
def i2 : List UInt8 := [147, 169, 16, 233, 46, 76, 128, 154, 112, 185, 44, 225, 220, 182, 54, 62, 149, 170, 198, 147, 182, 119, 87, 23, 225, 237, 254, 13, 137, 132, 61, 151]
def i3 : List UInt8 := [186, 233, 223, 188, 26, 112, 203, 221, 192, 161, 136, 118, 74, 7, 163, 7, 108, 25, 234, 210, 122, 241, 80, 118, 251, 125, 180, 21, 178, 160, 227, 219]
def i4 : List UInt8 := [228, 25, 105, 141, 12, 10, 204, 140, 130, 185, 142, 84, 24, 128, 222, 188, 190, 155, 40, 134, 35, 14, 137, 220, 208, 132, 44, 86, 133, 144, 94, 28]
def q1 : ObjL := blobO [49]
def q2 : ObjL := treeO [⟨nX, false, i1⟩, ⟨nY, false, i1⟩]
def q3 : ObjL := treeO [⟨nX, false, i1⟩]
def q4 : ObjL := treeO [⟨nA, true, i2⟩, ⟨nB, true, i3⟩]
set_option maxRecDepth 1000000 in
theorem idq1 : idL q1 = i1 := by decide +kernel
set_option maxRecDepth 1000000 in
theorem idq2 : idL q2 = i2 := by decide +kernel
set_option maxRecDepth 1000000 in
theorem idq3 : idL q3 = i3 := by decide +kernel
set_option maxRecDepth 1000000 in
theorem idq4 : idL q4 = i4 := by decide +kernel
theorem fold1 (k : Nat) (os : List ObjL) (tw : Bool) (l : List Fl) (ns : List ByteArray) (h : namesF l = ns) (hs : ns.Pairwise (fun a b => nl b a = false)) :
    folderS (k + 1) (os, tw) l = (putS (ns.foldl (stepS (folderS k) l) ((os, tw), [])).1.1 (ns.foldl (stepS (folderS k) l) ((os, tw), [])).1.2 (treeO (ns.foldl (stepS (folderS k) l) ((os, tw), [])).2), idL (treeO (ns.foldl (stepS (folderS k) l) ((os, tw), [])).2)) := by
  unfold folderS
  rw [h, sortN_id hs]
theorem step_file (rc : StS → List Fl → StS × List UInt8) (l : List Fl) (a : StS × List EntL) (nm t : ByteArray) (h1 : belowF l nm = []) (h2 : textO l nm = some t) :
    stepS rc l a nm = (putS a.1.1 a.1.2 (blobO (bL t)), a.2 ++ [⟨nm, false, idL (blobO (bL t))⟩]) := by
  unfold stepS
  rw [if_pos h1, h2]
  rfl
theorem step_fold (rc : StS → List Fl → StS × List UInt8) (l b : List Fl) (a : StS × List EntL) (nm : ByteArray) (h1 : belowF l nm = b) (h2 : b ≠ []) :
    stepS rc l a nm = ((rc a.1 b).1, a.2 ++ [⟨nm, true, (rc a.1 b).2⟩]) := by
  unfold stepS
  rw [if_neg (by rw [h1]; exact h2), h1]
theorem foldB (k : Nat) : folderS (k + 1) ([q1, q2], false) [⟨nX, tW⟩] = (([q1, q2, q3], false), i3) := by
  rw [fold1 k _ _ _ [nX] (by decide +kernel) (by simp)]
  rw [List.foldl_cons, List.foldl_nil, step_file _ _ _ nX tW (by decide +kernel) (by decide +kernel)]
  have e1 : putS [q1, q2] false (blobO (bL tW)) = ([q1, q2], false) := by
    show putS [q1, q2] false q1 = _
    unfold putS
    rw [List.find?_cons_of_pos (by simp)]
    show ([q1, q2], false || !sameB q1 q1) = _
    rw [show sameB q1 q1 = true from by decide +kernel]; rfl
  rw [show idL (blobO (bL tW)) = i1 from idq1]
  simp only [e1, List.nil_append]
  show (putS [q1, q2] false q3, idL q3) = _
  unfold putS
  rw [List.find?_cons_of_neg (by rw [idq1, idq3]; decide), List.find?_cons_of_neg (by rw [idq2, idq3]; decide), List.find?_nil, idq3]
  rfl
theorem foldA (k : Nat) : folderS (k + 1) ([], false) [⟨nX, tW⟩, ⟨nY, tW⟩] = (([q1, q2], false), i2) := by
  rw [fold1 k _ _ _ [nX, nY] (by decide +kernel) (by decide +kernel)]
  rw [List.foldl_cons, List.foldl_cons, List.foldl_nil, step_file _ _ ((([] : List ObjL), false), []) nX tW (by decide +kernel) (by decide +kernel), step_file _ _ _ nY tW (by decide +kernel) (by decide +kernel)]
  have e0 : putS [] false (blobO (bL tW)) = ([q1], false) := rfl
  have e1 : putS [q1] false (blobO (bL tW)) = ([q1], false) := by
    show putS [q1] false q1 = _
    unfold putS
    rw [List.find?_cons_of_pos (by simp)]
    show ([q1], false || !sameB q1 q1) = _
    rw [show sameB q1 q1 = true from by decide +kernel]; rfl
  rw [show idL (blobO (bL tW)) = i1 from idq1]
  simp only [e0, e1, List.nil_append, List.cons_append]
  show (putS [q1] false q2, idL q2) = _
  unfold putS
  rw [List.find?_cons_of_neg (by rw [idq1, idq2]; decide), List.find?_nil, idq2]
  rfl
theorem foldW : folderS 4 ([], false) wF = (([q1, q2, q3, q4], false), i4) := by
  rw [fold1 3 _ _ _ [nA, nB] (by decide +kernel) (by decide +kernel)]
  rw [List.foldl_cons, List.foldl_cons, List.foldl_nil, step_fold _ _ [⟨nX, tW⟩, ⟨nY, tW⟩] ((([] : List ObjL), false), []) nA (by decide +kernel) (by simp)]
  rw [foldA 2, step_fold _ _ [⟨nX, tW⟩] _ nB (by decide +kernel) (by simp), foldB 2]
  show (putS [q1, q2, q3] false q4, idL q4) = _
  unfold putS
  rw [List.find?_cons_of_neg (by rw [idq1, idq4]; decide), List.find?_cons_of_neg (by rw [idq2, idq4]; decide), List.find?_cons_of_neg (by rw [idq3, idq4]; decide), List.find?_nil, idq4]
  rfl
theorem splitW : splitV wF = ([q1, q2, q3, q4], i4, 0) := by
  unfold splitV
  rw [if_pos (by decide +kernel), foldW, if_neg (by decide)]
end Go.Proofs.YtpadfabjihaapaaGreatDoor

namespace Go.Proofs.YtpadfabjihaapaaGreatDoor
open Go.RowKit
set_option linter.unusedVariables false
set_option linter.unusedSimpArgs false

theorem four {α β : Type} (f : α → β) {l : List α} {a b c d : β} (h : l.map f = [a, b, c, d]) : ∃ x y z u, l = [x, y, z, u] ∧ f x = a ∧ f y = b ∧ f z = c ∧ f u = d := by
  match l, h with
  | [x, y, z, u], h => simp only [List.map_cons, List.map_nil, List.cons.injEq] at h; exact ⟨x, y, z, u, rfl, h.1, h.2.1, h.2.2.1, h.2.2.2.1⟩
theorem loadW {ds : List HdV} (h1 : ds.map (·.o) = [q1, q2, q3, q4]) (h2 : ∀ d ∈ ds, d.id = idL d.o) : load1 ds i4 ⟨#[]⟩ [] = (0, wF) := by
  obtain ⟨x, y, z, u, rfl, hx, hy, hz, hu⟩ := four HdV.o h1
  have jx : x.id = i1 := by rw [h2 x (by simp), hx, idq1]
  have jy : y.id = i2 := by rw [h2 y (by simp), hy, idq2]
  have jz : z.id = i3 := by rw [h2 z (by simp), hz, idq3]
  have ju : u.id = i4 := by rw [h2 u (by simp), hu, idq4]
  have g1 : gtH [x, y, z, u] i1 1 = (0, x) := by
    unfold gtH
    rw [List.find?_cons_of_pos (by rw [jx]; decide)]
    simp only [hx]
    rw [if_pos (by decide +kernel)]
  have g2 : gtH [x, y, z, u] i2 2 = (0, y) := by
    unfold gtH
    rw [List.find?_cons_of_neg (by rw [jx]; decide), List.find?_cons_of_pos (by rw [jy]; decide)]
    simp only [hy]
    rw [if_pos (by decide +kernel)]
  have g3 : gtH [x, y, z, u] i3 2 = (0, z) := by
    unfold gtH
    rw [List.find?_cons_of_neg (by rw [jx]; decide), List.find?_cons_of_neg (by rw [jy]; decide), List.find?_cons_of_pos (by rw [jz]; decide)]
    simp only [hz]
    rw [if_pos (by decide +kernel)]
  have g4 : gtH [x, y, z, u] i4 2 = (0, u) := by
    unfold gtH
    rw [List.find?_cons_of_neg (by rw [jx]; decide), List.find?_cons_of_neg (by rw [jy]; decide), List.find?_cons_of_neg (by rw [jz]; decide), List.find?_cons_of_pos (by rw [ju]; decide)]
    simp only [hu]
    rw [if_pos (by decide +kernel)]
  have ey : y.o.ents = [⟨nX, false, i1⟩, ⟨nY, false, i1⟩] := by rw [hy]; rfl
  have ez : z.o.ents = [⟨nX, false, i1⟩] := by rw [hz]; rfl
  have eu : u.o.ents = [⟨nA, true, i2⟩, ⟨nB, true, i3⟩] := by rw [hu]; rfl
  have tx : lB x.o.bytes = tW := by rw [hx]; rfl
  have a2 : load2 [x, y, z, u] i2 (⟨#[]⟩ ++ nA ++ ⟨#[47]⟩) [] = (0, [⟨pAX, tW⟩, ⟨pAY, tW⟩]) := by
    show loadF 2 load3 [x, y, z, u] i2 (⟨#[]⟩ ++ nA ++ ⟨#[47]⟩) [] = _
    unfold loadF
    rw [g2]
    simp only [ey, if_true]
    rw [if_neg (by simp), entsL, if_neg (by decide), g1]
    simp only [tx]
    rw [if_pos trivial, if_neg (by decide), entsL, if_neg (by decide), g1]
    simp only [tx]
    rw [if_pos trivial, if_neg (by decide), entsL]
    decide +kernel
  have a3 : load2 [x, y, z, u] i3 (⟨#[]⟩ ++ nB ++ ⟨#[47]⟩) [⟨pAX, tW⟩, ⟨pAY, tW⟩] = (0, wF) := by
    show loadF 2 load3 [x, y, z, u] i3 (⟨#[]⟩ ++ nB ++ ⟨#[47]⟩) _ = _
    unfold loadF
    rw [g3]
    simp only [ez, if_true]
    rw [if_neg (by simp), entsL, if_neg (by decide), g1]
    simp only [tx]
    rw [if_pos trivial, if_neg (by decide), entsL]
    decide +kernel
  show loadF 1 load2 [x, y, z, u] i4 ⟨#[]⟩ [] = _
  unfold loadF
  rw [g4]
  simp only [eu, if_true]
  rw [if_neg (by simp)]
  rw [entsL, if_pos rfl]
  simp only [a2]
  rw [if_pos trivial, entsL, if_pos rfl]
  simp only [a3]
  rw [if_pos trivial, entsL]
theorem wF_ok : repoB wF = true := by decide +kernel
theorem wF_sorted : wF.Pairwise (fun a b => nl a.path b.path = true) := by decide +kernel
theorem LoadR.wF {ds : List HdV} (h1 : ds.map (·.o) = [q1, q2, q3, q4]) (h2 : ∀ d ∈ ds, d.id = idL d.o) {l : List Fl} {en : Int} (h : LoadR ds i4 l en) : l = wF ∧ en = 0 := by
  unfold LoadR at h
  rw [loadW h1 h2] at h
  rcases h with ⟨h, _⟩ | ⟨_, l', hp, hs, hc⟩
  · exact absurd rfl h
  · have := sorted_uniq Fl.path hp hs wF_sorted
    subst this
    rw [wF_ok] at hc
    rcases hc with ⟨_, a, b⟩ | ⟨a, _⟩
    · exact ⟨a, b⟩
    · cases a
theorem two_new {w : World} {G : Nat} (hG : w.heap.size = G) (c1 c2 d1 d2 : Array Value) (t1 t2 : TypeId) :
    Ext w ((((w.alloc (.cells c1 t1)).alloc (.cells c2 t2)).setRow G d1).setRow (G + 1) d2) ∧ ((((w.alloc (.cells c1 t1)).alloc (.cells c2 t2)).setRow G d1).setRow (G + 1) d2).heap[G]? = some (.cells d1 t1 (0, 0)) ∧
      ((((w.alloc (.cells c1 t1)).alloc (.cells c2 t2)).setRow G d1).setRow (G + 1) d2).heap[G + 1]? = some (.cells d2 t2 (0, 0)) := by
  have b1 : ((w.alloc (.cells c1 t1)).alloc (.cells c2 t2)).heap[G]? = some (.cells c1 t1 (0, 0)) := blk_old (blk_new hG)
  have b2 : ((w.alloc (.cells c1 t1)).alloc (.cells c2 t2)).heap[G + 1]? = some (.cells c2 t2 (0, 0)) := blk_new (by simp [hG])
  have x0 : Ext w ((w.alloc (.cells c1 t1)).alloc (.cells c2 t2)) := ((Ext.refl w).alloc _).alloc _
  have g1 : ((w.alloc (.cells c1 t1)).alloc (.cells c2 t2)).grownBy (((w.alloc (.cells c1 t1)).alloc (.cells c2 t2)).setRow G d1) (some G) := grown_setRow'
  have e1 := setRow_heap _ G _ d1 _ _ b1
  have e2 := grown_other g1 b2 (by omega)
  have g2 : (((w.alloc (.cells c1 t1)).alloc (.cells c2 t2)).setRow G d1).grownBy ((((w.alloc (.cells c1 t1)).alloc (.cells c2 t2)).setRow G d1).setRow (G + 1) d2) (some (G + 1)) := grown_setRow'
  exact ⟨(x0.grown g1 (fun k hk => by cases hk; omega)).grown g2 (fun k hk => by cases hk; omega), grown_other g2 e1 (by omega), setRow_heap _ (G + 1) _ d2 _ _ e2⟩
set_option maxHeartbeats 4000000 in
set_option maxRecDepth 100000 in
theorem wakes07 (w : World) (hT : Tabs w) : Calls Tryz.prog 7 #[] w fun e w' => e = .returned (.bool true) ∧ Ext w w' := by
  have HT := Lib.hid hT
  clear hT
  go_enter Tryz.func7, Tryz.ntmps7
  go_upto_region 2 with fail
  obtain ⟨B, hB⟩ : ∃ B, w.heap.size = B := ⟨_, rfl⟩
  rw [hB]
  refine wp_forgetH (fun W => Ext w W ∧ W.heap[B]? = some (.cells (wF.flatMap flC).toArray 66 (0, 0)) ∧ W.heap[B + 1]? = some (.cells #[.slice (some ⟨B, 0, none⟩) 3 3] 24 (0, 0))) ⟨((Ext.refl w).alloc _).alloc _, blk_old (blk_new hB), blk_new (by simp [hB])⟩ ?_
  rintro w1 ⟨x1, bF, bP⟩
  have hF1 : IsF w1 (.slice (some ⟨B, 0, none⟩) 3 3) wF := by
    refine ⟨⟨rfl, some ⟨B, 0, none⟩, 3, rfl, Nat.le_refl _, by omega, (fun h => by cases h), fun i hi => ⟨B, 0, rfl, ?_⟩⟩, fun f hf => ?_⟩
    · rw [block_cell bF]; simp
    · have : ∀ f ∈ wF, f.path.size ≤ 100 ∧ f.text.size ≤ 100 := by decide +kernel
      exact ⟨Nat.le_trans (this f hf).1 (by omega), Nat.le_trans (this f hf).2 (by omega)⟩
  have hirp := infoRp (.slice (some ⟨B, 0, none⟩) 3 3)
  have hi4 : i4.length = 32 := by decide
  have hii := id_info hi4
  clear bF
  go_wp2_with ((with_reducible refine at_load 24 (.tmp 1) ?_); refine wpl_load (by rfl) 24 (.tmp 1) rfl (B + 1) (by rfl) 24 #[.slice (some ⟨B, 0, none⟩) 3 3] (0, 0) _ bP Tryz.underlying24 rfl hirp ?_)
  refine Calls.mono (splitC w1 (HT.out.ext x1) _ wF hF1) ?_
  rintro e w2 ⟨v2, rfl, hp2, x2⟩
  rw [splitW] at hp2 ⊢
  simp only at hp2
  obtain ⟨ds, d1, d2, hd2⟩ := hp2.hdL
  obtain ⟨a2, c2, e2⟩ := sl_len hd2.sl.sl
  have hl4 : ds.length = 4 := by have := congrArg List.length d1; simpa using this
  rw [List.length_map, hl4] at e2
  subst e2
  obtain ⟨J, hJ⟩ : ∃ J, i4 = J := ⟨_, rfl⟩
  rw [hJ] at hi4 hii ⊢
  go_upto_region 3 with (first
    | ((with_reducible refine at_store 29 (.tmp 2) (.tmp 15) ?_); refine wpl_store (by rfl) 29 (.tmp 2) (.tmp 15) rfl _ #[.slice a2 4 c2] (by rfl) (by rfl) 29 _ (blk_old (heap_alloc_new w2 _)) (infoHp _) rfl (by kernel_rfl) ?_)
    | ((with_reducible refine at_store 31 (.tmp 3) (.tmp 16) ?_); refine wpl_store (by rfl) 31 (.tmp 3) (.tmp 16) rfl _ (J.map bc).toArray (by rfl) (by rfl) 31 _ (grown_other grown_setRow' (blk_new (by simp)) (by omega)) (id_size hi4) (id_same (a := z32) rfl hi4) (id_one _) ?_))
  obtain ⟨N, hN⟩ : ∃ N, w2.heap.size = N := ⟨_, rfl⟩
  rw [hN]
  refine wp_forgetH (fun W => Ext w2 W ∧ W.heap[N]? = some (.cells #[.slice a2 4 c2] 29 (0, 0)) ∧ W.heap[N + 1]? = some (.cells (J.map bc).toArray 31 (0, 0))) (two_new hN _ _ _ _ _ _) ?_
  rintro w3 ⟨x3, bH, bI⟩
  go_wp2_with (first
    | ((with_reducible refine at_load 29 (.tmp 2) ?_); refine wpl_load (by rfl) 29 (.tmp 2) rfl N (by rfl) 29 #[.slice a2 4 c2] (0, 0) _ bH Tryz.underlying29 rfl (infoHp _) ?_)
    | ((with_reducible refine at_load 31 (.tmp 3) ?_); refine wpl_mid (by rfl) 31 (.tmp 3) rfl (N + 1) 0 (by rfl) (J.map bc) _ (range_blk bI) Tryz.underlying31 rfl hii ?_))
  refine Calls.mono (loadTree w3 _ ds (hd2.ext x3) J hi4) ?_
  rintro e w4 ⟨v4, l4, en, rfl, hlr, hF4, x4⟩
  obtain ⟨rfl, rfl⟩ := LoadR.wF d1 d2 (hJ ▸ hlr)
  obtain ⟨a4, c4, e4⟩ := sl_len hF4.sl
  rw [show wF.length = 3 from rfl] at e4
  subst e4
  obtain ⟨_, hcap, _⟩ := sl_cap hF4.sl
  obtain ⟨p4, o4, rfl, k2⟩ : ∃ p o, a4 = some ⟨p, o, none⟩ ∧ w4.cell? ⟨p, o + 2 * 2, none⟩ = some (.string pBX) := by
    obtain ⟨_, ao', cap', e, _, _, _, h5⟩ := hF4.sl
    simp only [Value.slice.injEq] at e
    obtain ⟨b, o, e1, e2⟩ := h5 4 (by decide)
    exact ⟨b, o, by rw [e.1]; exact e1, by rw [e2]; rfl⟩
  have bH4 := x4.keeps bH
  have kH := fun v (h : Ext w4 v) => block_allH (h.keeps bH4)
  go_upto_region 4 with ((with_reducible refine at_store 24 (.tmp 5) (.tmp 22) ?_); refine wpl_store (by rfl) 24 (.tmp 5) (.tmp 22) rfl _ #[.slice (some ⟨p4, o4, none⟩) 3 c4] (by rfl) (by rfl) 24 _ (heap_alloc_new w4 _) (infoRp _) rfl (by kernel_rfl) ?_; rw [World.setRow_alloc_new])
  refine wp_forgetH (fun W => Ext w4 W ∧ W.heap[w4.heap.size]? = some (.cells #[.slice (some ⟨p4, o4, none⟩) 3 c4] 24 (0, 0))) ⟨(Ext.refl w4).alloc _, heap_alloc_new _ _⟩ ?_
  rintro w5 ⟨x5, b5⟩
  generalize w4.heap.size = M at *
  have k5 := block_allH b5
  have kH5 := block_allH (x5.keeps bH4)
  have kk := x5.cell k2
  go_wp2_with fail
  go_ret
  have hb : (pBX.toList == [98, 47, 120, 46, 103, 111]) = true := by rw [ByteArray.toList_eq]; decide
  rw [hb]
  exact ⟨rfl, x1.trans (x2.trans (x3.trans (x4.trans x5)))⟩
end Go.Proofs.YtpadfabjihaapaaGreatDoor
