/- The walks of the reference's Fit, Plain and Text: the bytes of a text, kept and new. -/
import Derived.Test.YtgcbkhmaabmdjaaDoorEdM
import Derived.Laws.IdiomStrings
import Derived.Lib.BufferRead
namespace Go.Proofs.YtgcbkhmaabmdjaaDoor
theorem infoByte : (Tryd.prog.info? 5).map (fun i => (i.zero, i.size, i.bytes)) = some (some (Go.Value.int .u8 0), 1, 1) := by kernel_rfl
theorem tyB : ETy Tryd.prog 77 5 (.int .u8 0) 1 1 := ⟨Tryd.underlying77, info_parts infoByte, rfl, by decide⟩
open Go.RowKit
set_option linter.unusedVariables false

/-- A part of a slice: the value is what the walk writes for 's[a:b]'. -/
theorem IsSl.cut {w : World} {ao : Option Addr} {n cap size : Nat} {xs : List Value} (h : IsSl w (.slice ao n cap) size n xs) (a b : Nat) (hab : a ≤ b) (hb : b ≤ n) :
    IsSl w (.slice (if cap = a then ao else ao.map (·.add (a * size))) (b - a) (cap - a)) size (b - a) ((xs.drop (a * size)).take ((b - a) * size)) := by
  obtain ⟨hlen, ao', cap', e, h2, h3, h4, h5⟩ := h
  simp only [Value.slice.injEq] at e
  obtain ⟨rfl, _, rfl⟩ := e
  have e1 : (b - a) * size = b * size - a * size := Nat.sub_mul ..
  have e2 : a * size ≤ b * size := Nat.mul_le_mul_right _ hab
  have e3 : b * size ≤ n * size := Nat.mul_le_mul_right _ hb
  refine ⟨by rw [List.length_take, List.length_drop]; omega, _, _, rfl, by omega, by omega, ?_, ?_⟩
  · intro h0
    by_cases hc : cap = a
    · omega
    · rw [if_neg hc] at h0
      have := h4 (by simpa using h0)
      omega
  · intro i hi
    have hi' : i < (b - a) * size := by rw [List.length_take] at hi; omega
    obtain ⟨p, off, e1', e2'⟩ := h5 (a * size + i) (by omega)
    have hab' : a < b := by
      rcases Nat.lt_or_ge a b with h | h
      · exact h
      · rw [Nat.sub_eq_zero_of_le h, Nat.zero_mul] at hi'; omega
    refine ⟨p, off + a * size, ?_, ?_⟩
    · rw [if_neg (by omega), e1']
      simp [Addr.add_lit]
    · rw [Nat.add_assoc, e2', List.getElem?_take, if_pos hi', List.getElem?_drop]

/-- 'string(b)' of whatever slice of bytes. -/
theorem conv_str {P : Program} {w : World} {v : Value} {l : List UInt8} (h : IsB w v l) (src dst e : TypeId) (hs : P.underlying src = some (.slice e)) (he : P.underlying e = some (.int .u8)) (hd : P.underlying dst = some .string) :
    (convert src dst v).run P w = .ok (.string ⟨l.toArray⟩) w := by
  obtain ⟨ao, cap, rfl, h2, h3, h4, h5⟩ := h.opened
  cases ao with
  | none =>
    obtain rfl : l = [] := List.eq_nil_of_length_eq_zero (by have := h4 rfl; omega)
    exact Lib.run_convert_nil_bytes w src dst e cap hs he hd
  | some ad =>
    refine run_convert_bytes_back w src dst e ad cap l hs he hd fun j hj => ?_
    obtain ⟨b, off, e0, c0⟩ := h5 j hj
    obtain rfl := Option.some.inj e0
    rw [Addr.add_lit]
    exact c0
/-- A byte of a text behind edits. -/
def byC (b : UInt8 × Int) : List Value := [bc b.1, .int .i64 b.2]
def IsY (w : World) (v : Value) (l : List (UInt8 × Int)) : Prop := IsSl w v 2 l.length (l.flatMap byC)
theorem IsY.opened {w : World} {v : Value} {l : List (UInt8 × Int)} (h : IsY w v l) :
    ∃ ao cap, v = .slice ao l.length cap ∧ l.length ≤ cap ∧ cap ≤ 9223372036854775807 ∧ (ao = none → cap = 0) ∧
      ∀ i (hi : i < l.length), ∃ b off, ao = some ⟨b, off, none⟩ ∧ w.cell? ⟨b, off + i * 2, none⟩ = some (.int .u8 (l[i].1.toNat : Int)) ∧ w.cell? ⟨b, off + i * 2 + 1, none⟩ = some (.int .i64 l[i].2) := by
  obtain ⟨hl, ao, cap, e, h2, h3, h4, h5⟩ := h
  refine ⟨ao, cap, e, h2, h3, h4, fun i hi => ?_⟩
  obtain ⟨b, off, e0, c0⟩ := h5 (i * 2) (by rw [hl]; omega)
  obtain ⟨b', off', e0', c1⟩ := h5 (i * 2 + 1) (by rw [hl]; omega)
  rw [e0] at e0'
  simp only [Option.some.injEq, Addr.mk.injEq, and_true] at e0'
  obtain ⟨rfl, rfl⟩ := e0'
  have g := fun j hj => flat_get byC 2 l (fun _ _ => rfl) i hi j hj
  refine ⟨b, off, e0, ?_, ?_⟩
  · rw [c0]; have := g 0 (by omega); simpa [byC, bc] using this
  · rw [Nat.add_assoc, c1]; have := g 1 (by omega); simpa [byC, bc] using this
theorem byC_one (l : List (UInt8 × Int)) : ∀ u ∈ l.flatMap byC, u.oneCell' = true := by
  intro u hu
  obtain ⟨x, _, hx⟩ := List.mem_flatMap.1 hu
  simp only [byC, bc, List.mem_cons, List.not_mem_nil, or_false] at hx
  rcases hx with rfl | rfl <;> rfl
theorem byC_one1 (x : UInt8 × Int) : ∀ u ∈ byC x, u.oneCell' = true := by
  intro u hu
  exact byC_one [x] u (by simpa using hu)
theorem infoBy : (Tryd.prog.info? 95).map (fun i => (i.zero, i.size, i.bytes)) = some (some (.agg #[.int .u8 0, .int .i64 0]), 2, 16) := by kernel_rfl
theorem tyY : ETy Tryd.prog 68 95 (.agg #[.int .u8 0, .int .i64 0]) 2 16 := ⟨Tryd.underlying68, info_parts infoBy, rfl, by decide⟩
theorem lit_by (w : World) (c : UInt8) (z : Int) {b : Nat} (hb : w.heap.size = b) : IsSl (w.alloc (.cells #[.int .u8 (c.toNat : Int), .int .i64 z] 95)) (.slice (some ⟨b, 0, none⟩) 1 1) 2 1 (byC (c, z)) := by
  subst hb
  refine ⟨rfl, _, _, rfl, by decide, by decide, (fun h => by cases h), fun i hi => ⟨_, 0, rfl, ?_⟩⟩
  rw [Nat.zero_add, World.cell?_alloc_new, ← Array.getElem?_toList]
  rfl

/-- The bytes of a text, all kept: the first k. -/
def plainN (s : List UInt8) (k : Nat) : List (UInt8 × Int) := (List.range k).map fun i => (s.getD i 0, (i : Int))
theorem plainN_len (s : List UInt8) (k : Nat) : (plainN s k).length = k := by simp [plainN]
theorem plainN_succ (s : List UInt8) (k : Nat) : plainN s (k + 1) = plainN s k ++ [(s.getD k 0, (k : Int))] := by simp [plainN, List.range_succ]
theorem plainN_fst (s : List UInt8) : (plainN s s.length).map Prod.fst = s := by
  apply List.ext_getElem
  · simp [plainN]
  · intro i h1 h2
    simp [plainN, h2]

def fitR (l : List Ed) (n : Int) : Bool := l.all fun e => decide (e.at_ + e.n ≤ n)

set_option maxHeartbeats 4000000 in
set_option maxRecDepth 100000 in
theorem refFit (w : World) (v : Value) (l : List Ed) (n : Int) (h : IsE w v l) (hc : ∀ e ∈ l, okOne e = true) :
    Calls Tryd.prog 57 #[.int .i64 n, v] w fun e w' => e = .returned (.bool (fitR l n)) ∧ Ext w w' := by
  obtain ⟨ao, cap, rfl, b1, m1, z1, g1⟩ := h.opened
  have G1 := Lib.hid g1
  have HO := Lib.hid hc
  clear g1 z1 h hc
  go_enter Tryd.func57, Tryd.ntmps57
  go_wp2_with fail
  go_loopg [9] l.length (fun g s9 wr => ∃ k : Nat, k ≤ l.length ∧ l.length - k ≤ g ∧ s9 = .int .i64 k ∧ fitR l n = fitR (l.drop k) n ∧ Ext w wr)
  case atStart => exact ⟨0, Nat.zero_le _, by omega, rfl, rfl, Ext.refl _⟩
  case round =>
    obtain ⟨k, hk, hg, rfl, heq, xr⟩ := hrel
    have HEQ := Lib.hid heq
    clear heq
    by_cases hlt : k < l.length
    · obtain ⟨pb, o, rfl, e0, e1, e2, e3⟩ := G1.out k hlt
      have e0 := xr.cell e0
      have e1 := xr.cell e1
      have e2 := xr.cell e2
      have e3 := xr.cell e3
      obtain ⟨o1, o2, o3, o4, o5, _⟩ := okOne_all (HO.out l[k] (List.getElem_mem hlt))
      have heq := HEQ.out
      rw [List.drop_eq_getElem_cons hlt] at heq
      simp only [fitR, List.all_cons] at heq
      generalize l[k] = x at *
      by_cases c1 : x.at_ + x.n ≤ n
      · rw [decide_eq_true c1, Bool.true_and] at heq
        have HE := Lib.hid heq
        clear heq HEQ
        go_wp2
        go_roundg (l.length - (k + 1))
        case measure => omega
        case rel => exact ⟨k + 1, by omega, by omega, by go_num, HE.out, by repeat' (first | assumption | exact Ext.refl _ | refine Ext.alloc ?_ _ | refine Ext.drew ?_)⟩
      · rw [decide_eq_false c1, Bool.false_and] at heq
        have HE := Lib.hid heq
        clear heq HEQ
        go_wp2
        go_ret
        exact ⟨by unfold fitR; rw [HE.out]; rfl, by repeat' (first | assumption | exact Ext.refl _ | refine Ext.alloc ?_ _ | refine Ext.drew ?_)⟩
    · have : k = l.length := by omega
      subst this
      go_wp2
      go_ret
      exact ⟨by rw [HEQ.out, List.drop_length]; rfl, xr⟩
set_option maxHeartbeats 4000000 in
set_option maxRecDepth 100000 in
theorem refPlain (w : World) (s : ByteArray) (hs : s.size ≤ 1099511627776) :
    Calls Tryd.prog 44 #[.string s] w fun e w' => ∃ v', e = .returned v' ∧ w'.ownsRow w.heap.size 95 2 v' s.size ((plainN s.data.toList s.size).flatMap byC) ∧ Ext w w' := by
  go_enter Tryd.func44, Tryd.ntmps44
  go_wp2_with fail
  have HL : s.data.toList.length = s.size := by simp
  go_loopg [3, 7] s.size (fun g s3 s7 wr => ∃ k : Nat, k ≤ s.size ∧ s.size - k ≤ g ∧ s7 = .int .i64 k ∧ wr.ownsRow w.heap.size 95 2 s3 k ((plainN s.data.toList k).flatMap byC) ∧ Ext w wr)
  case atStart => exact ⟨0, Nat.zero_le _, by omega, rfl, World.ownsRow_nil _ _ _ _, Ext.refl _⟩
  case round =>
    obtain ⟨k, hk, hg, rfl, hown, xr⟩ := hrel
    by_cases hlt : k < s.size
    · have xs := xr.size
      have hstep := plainN_succ s.data.toList k
      have hget : s.data.toList.getD k 0 = s[k] := by simp [hlt]; rfl
      rw [hget] at hstep
      have HS := Lib.hid hstep
      clear hstep hget
      go_wp2_with (at_builtin; go_must (refine wp_app tyY rfl _ _ rfl _ _ _ _ (hown.alloc _) (by rfl) _ 1 (byC (s[k], (k : Int))) (lit_by _ s[k] k (b := wr.heap.size) rfl) (by rfl) (byC_one1 _) (by omega) (by omega) (by simp; omega) ?_); intro v4 w4 hown4 hgrow4)
      have x4 := own_base (hown.alloc _) hgrow4 (xr.alloc _) (Nat.le_refl _)
      go_roundg (s.size - (k + 1))
      case measure => omega
      case rel => exact ⟨k + 1, by omega, by omega, by go_num, by rw [HS.out, List.flatMap_append]; simpa using hown4, x4⟩
    · have : k = s.size := by omega
      subst this
      go_wp2
      go_ret
      exact ⟨_, rfl, hown, xr⟩
set_option maxHeartbeats 4000000 in
set_option maxRecDepth 100000 in
theorem refText (w : World) (v : Value) (l : List (UInt8 × Int)) (h : IsY w v l) (hl : l.length ≤ 4398046511104) :
    Calls Tryd.prog 58 #[v] w fun e w' => e = .returned (.string ⟨(l.map Prod.fst).toArray⟩) ∧ Ext w w' := by
  obtain ⟨ao, cap, rfl, b1, m1, z1, g1⟩ := h.opened
  have G1 := Lib.hid g1
  clear g1 z1 h
  go_enter Tryd.func58, Tryd.ntmps58
  go_wp2_with fail
  go_loopg [3, 8] l.length (fun g s3 s8 wr => ∃ k : Nat, k ≤ l.length ∧ l.length - k ≤ g ∧ s8 = .int .i64 k ∧ wr.ownsRow w.heap.size 5 1 s3 k ((l.take k).map fun x => bc x.1) ∧ Ext w wr)
  case atStart => exact ⟨0, Nat.zero_le _, by omega, rfl, World.ownsRow_nil _ _ _ _, Ext.refl _⟩
  case round =>
    obtain ⟨k, hk, hg, rfl, hown, xr⟩ := hrel
    by_cases hlt : k < l.length
    · obtain ⟨pb, o, rfl, e0, e1⟩ := G1.out k hlt
      have e0 := xr.cell e0
      have e1 := xr.cell e1
      have hstep : (l.take (k + 1)).map (fun x => bc x.1) = (l.take k).map (fun x => bc x.1) ++ [bc l[k].1] := by
        rw [List.take_add_one, List.getElem?_eq_getElem hlt, List.map_append]; rfl
      generalize l[k] = x at *
      have HS := Lib.hid hstep
      have xs := xr.size
      clear hstep
      go_wp2_with (at_builtin; go_must (refine wp_app1 tyB rfl _ _ rfl w.heap.size _ k _ _ _ (hown.alloc _) (by rfl) (by rw [World.size_alloc]; rfl) rfl (by omega) (by omega) (by simp; omega) ?_); intro v4 w4 hown4 hgrow4)
      have x4 := own_base ((hown.alloc _).alloc _) hgrow4 ((xr.alloc _).alloc _) (Nat.le_refl _)
      go_roundg (l.length - (k + 1))
      case measure => omega
      case rel => exact ⟨k + 1, by omega, by omega, by go_num, by rw [HS.out]; exact hown4, x4⟩
    · have : k = l.length := by omega
      subst this
      rw [List.take_length] at hown
      have hB : IsB wr _ (l.map Prod.fst) := IsB.of_owns (by rw [List.map_map]; exact hown)
      have hcv := conv_str (P := Tryd.prog) hB 77 9 5 Tryd.underlying77 Tryd.underlying5 Tryd.underlying9
      go_wp2
      go_ret
      exact ⟨rfl, xr⟩
end Go.Proofs.YtgcbkhmaabmdjaaDoor
