/- Files in cells; the walks of the reference's Cut and Path. -/
import Derived.Test.YtpcpcjejdngllaaDoorTrP
import Derived.Test.YtpcpcjejdngllaaDoorOpen
import Derived.Test.YtpcpcjejdngllaaDoorRegS
namespace Go.Proofs.YtpcpcjejdngllaaDoor
open Go.RowKit
set_option linter.unusedVariables false
set_option linter.unusedSimpArgs false

structure Fl where
  path : ByteArray
  text : ByteArray
deriving DecidableEq
instance : Inhabited Fl := ⟨⟨ByteArray.empty, ByteArray.empty⟩⟩
def flC (f : Fl) : List Value := [.string f.path, .string f.text]
def flOk (f : Fl) : Prop := f.path.size ≤ 140737488355328 ∧ f.text.size ≤ 140737488355328
/-- A slice of files. -/
structure IsF (w : World) (v : Value) (l : List Fl) : Prop where
  sl : IsSl w v 2 l.length (l.flatMap flC)
  ok : ∀ f ∈ l, flOk f
theorem IsF.ext {w w' : World} {v : Value} {l : List Fl} (h : IsF w v l) (k : Ext w w') : IsF w' v l := ⟨h.sl.ext k, h.ok⟩
theorem flC_len (l : List Fl) : ∀ x ∈ l, (flC x).length = 2 := fun _ _ => rfl
theorem IsF.opened {w : World} {v : Value} {l : List Fl} (h : IsF w v l) :
    ∃ ao cap, v = .slice ao l.length cap ∧ l.length ≤ cap ∧ cap ≤ 9223372036854775807 ∧ (ao = none → cap = 0) ∧
      ∀ i (hi : i < l.length), ∃ b off, ao = some ⟨b, off, none⟩ ∧ w.cell? ⟨b, off + i * 2, none⟩ = some (.string l[i].path) ∧ w.cell? ⟨b, off + i * 2 + 1, none⟩ = some (.string l[i].text) := by
  obtain ⟨hl, ao, cap, e, h2, h3, h4, h5⟩ := h.sl
  refine ⟨ao, cap, e, h2, h3, h4, fun i hi => ?_⟩
  have g := flat_get flC 2 l (flC_len l) i hi
  obtain ⟨b, off, e0, c0⟩ := h5 (i * 2) (by rw [hl]; omega)
  have hx : ∀ j, j < 2 → w.cell? ⟨b, off + i * 2 + j, none⟩ = (flC l[i])[j]? := by
    intro j hj
    obtain ⟨b1, off1, e1, c1⟩ := h5 (i * 2 + j) (by rw [hl]; omega)
    rw [e0] at e1
    simp only [Option.some.injEq, Addr.mk.injEq] at e1
    obtain ⟨rfl, rfl, _⟩ := e1
    rw [Nat.add_assoc, c1, g j hj]
  exact ⟨b, off, e0, hx 0 (by omega), hx 1 (by omega)⟩

theorem wrap64_small {x : Int} (h1 : -9223372036854775808 ≤ x) (h2 : x ≤ 9223372036854775807) : IntKind.i64.wrap x = x := by
  rw [IntKind.wrap_i64]
  omega
/-- Where the first slash is. -/
theorem index_is {s : ByteArray} {k : Nat} (hk : k < s.size) (h0 : ∀ j (hj : j < s.size), j < k → s[j] ≠ 47) (h : s[k] = 47) : Lib.indexByte s.data.toList 47 = (k : Int) := by
  have hge := Lib.indexByte_ge s.data.toList 47
  have hk1 : s.data.toList[k]? = some 47 := by
    rw [Array.getElem?_toList, Array.getElem?_eq_getElem hk]
    exact congrArg some h
  by_cases hn : Lib.indexByte s.data.toList 47 = -1
  · exact absurd hk1 (Lib.indexByte_none hn k)
  · obtain ⟨o, ho⟩ : ∃ o : Nat, Lib.indexByte s.data.toList 47 = (o : Int) := ⟨(Lib.indexByte s.data.toList 47).toNat, by omega⟩
    obtain ⟨h1, h2⟩ := Lib.indexByte_some ho
    rcases Nat.lt_trichotomy o k with h3 | h3 | h3
    · have ho2 : o < s.size := by omega
      refine absurd ?_ (h0 o ho2 h3)
      rw [Array.getElem?_toList, Array.getElem?_eq_getElem ho2] at h1
      exact Option.some.inj h1
    · rw [ho, h3]
    · exact absurd hk1 (h2 k h3)
theorem index_no {s : ByteArray} (h0 : ∀ j (hj : j < s.size), s[j] ≠ 47) : Lib.indexByte s.data.toList 47 = -1 := by
  have hge := Lib.indexByte_ge s.data.toList 47
  by_cases hn : Lib.indexByte s.data.toList 47 = -1
  · exact hn
  · obtain ⟨o, ho⟩ : ∃ o : Nat, Lib.indexByte s.data.toList 47 = (o : Int) := ⟨(Lib.indexByte s.data.toList 47).toNat, by omega⟩
    obtain ⟨h1, h2⟩ := Lib.indexByte_some ho
    have ho2 : o < s.size := by
      have := (List.getElem?_eq_some_iff.1 h1).1
      rw [Array.length_toList] at this
      exact this
    rw [Array.getElem?_toList, Array.getElem?_eq_getElem ho2] at h1
    exact absurd (Option.some.inj h1) (h0 o ho2)
/-- What Cut hands back. -/
def cutV (s : ByteArray) : Value :=
  if Lib.indexByte s.data.toList 47 = -1 then .tuple #[.string s, .string ⟨#[]⟩, .bool false]
  else .tuple #[.string (s.extract 0 (Lib.indexByte s.data.toList 47).toNat), .string (s.extract ((Lib.indexByte s.data.toList 47).toNat + 1) s.size), .bool true]

set_option maxHeartbeats 4000000 in
set_option maxRecDepth 100000 in
theorem refCut (w : World) (s : ByteArray) (hs : s.size ≤ 140737488355328) :
    Calls Tryd.prog 56 #[.string s] w fun e w' => e = .returned (cutV s) ∧ Ext w w' := by
  go_enter Tryd.func56, Tryd.ntmps56
  go_wp2
  go_loopg [5] s.size (fun g s5 wr => ∃ k : Nat, k ≤ s.size ∧ s.size - k ≤ g ∧ s5 = .int .i64 (k : Int) ∧ (∀ j (hj : j < s.size), j < k → s[j] ≠ 47) ∧ Ext w wr)
  case atStart => exact ⟨0, by omega, by omega, rfl, fun j _ hj => absurd hj (Nat.not_lt_zero _), Ext.refl _⟩
  case round =>
    obtain ⟨k, hk, hg, rfl, h0, xr⟩ := hrel
    have H0 := Lib.hid h0
    clear h0
    by_cases hlt : k < s.size
    · have hix := run_index_str wr s k hlt
      have hk0 : (0 : Int) ≤ (k : Int) := Int.natCast_nonneg _
      have hk1 : (k : Int) < (s.size : Int) := by omega
      have hk2 : (k : Int) ≤ (s.size : Int) := by omega
      have hk3 : (k : Int) + 1 ≤ (s.size : Int) := by omega
      have hk4 : (0 : Int) ≤ (k : Int) + 1 := by omega
      have hwk : IntKind.i64.wrap ((k : Int) + 1) = (k : Int) + 1 := wrap64_small (by omega) (by omega)
      by_cases hc : s[k] = 47
      · have hi := index_is hlt H0.out hc
        have hn : (s[k].toNat : Int) = 47 := by rw [hc]; rfl
        have hn' : ((s[k].toNat : Int) == 47) = true := by rw [hn]; rfl
        have HI := Lib.hid hi
        clear hi hc
        go_wp2_with fail
        refine wp_region_ext (by kernel_rfl) fun wd hqd xd hHeld => ?_
        refine wpAnyH_take (i := 0) (v := ?va0) rfl (by kernel_rfl) (by kernel_rfl) (by kernel_rfl) (fun _ _ _ h => h) (Or.inl ⟨by rfl, ?hya0⟩) hHeld ?_
        case hya0 => (intro w hSw; go_simp; try with_reducible rfl)
        simp only [Act.put, List.setIfInBounds_toArray, List.set_cons_zero, List.set_cons_succ, List.getElem_toArray, List.getElem_cons_zero, List.getElem_cons_succ]
        refine wpAnyH_take (i := 1) (v := ?va1) rfl (by kernel_rfl) (by kernel_rfl) (by kernel_rfl) (fun _ _ _ h => h) (Or.inl ⟨by rfl, ?hya1⟩) hHeld ?_
        case hya1 => (intro w hSw; go_simp; try with_reducible rfl)
        simp only [Act.put, List.setIfInBounds_toArray, List.set_cons_zero, List.set_cons_succ, List.getElem_toArray, List.getElem_cons_zero, List.getElem_cons_succ]
        refine wpAnyH_take (i := 2) (v := ?va2) rfl (by kernel_rfl) (by kernel_rfl) (by kernel_rfl) (fun _ _ _ h => h) (Or.inl ⟨by rfl, ?hya2⟩) hHeld ?_
        case hya2 => (intro w hSw; go_simp; try with_reducible rfl)
        simp only [Act.put, List.setIfInBounds_toArray, List.set_cons_zero, List.set_cons_succ, List.getElem_toArray, List.getElem_cons_zero, List.getElem_cons_succ]
        refine wpAnyH_take (i := 3) (v := ?va3) rfl (by kernel_rfl) (by kernel_rfl) (by kernel_rfl) (fun _ _ _ h => h) (Or.inl ⟨by rfl, ?hya3⟩) hHeld ?_
        case hya3 => (intro w hSw; go_simp; try with_reducible rfl)
        simp only [Act.put, List.setIfInBounds_toArray, List.set_cons_zero, List.set_cons_succ, List.getElem_toArray, List.getElem_cons_zero, List.getElem_cons_succ]
        refine wpAnyH_take (i := 4) (v := ?va4) rfl (by kernel_rfl) (by kernel_rfl) (by kernel_rfl) (fun _ _ _ h => h) (Or.inl ⟨by rfl, ?hya4⟩) hHeld ?_
        case hya4 => (intro w hSw; go_simp; try with_reducible rfl)
        simp only [Act.put, List.setIfInBounds_toArray, List.set_cons_zero, List.set_cons_succ, List.getElem_toArray, List.getElem_cons_zero, List.getElem_cons_succ]
        refine wpAnyH_take (i := 5) (v := ?va5) rfl (by kernel_rfl) (by kernel_rfl) (by kernel_rfl) (fun _ _ _ h => h) (Or.inl ⟨by rfl, ?hya5⟩) hHeld ?_
        case hya5 => (intro w hSw; go_simp; try with_reducible rfl)
        simp only [Act.put, List.setIfInBounds_toArray, List.set_cons_zero, List.set_cons_succ, List.getElem_toArray, List.getElem_cons_zero, List.getElem_cons_succ]
        refine wpAnyH_take (i := 6) (v := ?va6) rfl (by kernel_rfl) (by kernel_rfl) (by kernel_rfl) (fun _ _ _ h => h) (Or.inl ⟨by rfl, ?hya6⟩) hHeld ?_
        case hya6 => (intro w hSw; go_simp; try with_reducible rfl)
        simp only [Act.put, List.setIfInBounds_toArray, List.set_cons_zero, List.set_cons_succ, List.getElem_toArray, List.getElem_cons_zero, List.getElem_cons_succ]
        refine wpAnyH_take (i := 7) (v := ?va7) rfl (by kernel_rfl) (by kernel_rfl) (by kernel_rfl) (fun _ _ _ h => h) (Or.inl ⟨by rfl, ?hya7⟩) hHeld ?_
        case hya7 => (intro w hSw; go_simp; try with_reducible rfl)
        simp only [Act.put, List.setIfInBounds_toArray, List.set_cons_zero, List.set_cons_succ, List.getElem_toArray, List.getElem_cons_zero, List.getElem_cons_succ]
        refine wpAnyH_take (i := 8) (v := ?va8) rfl (by kernel_rfl) (by kernel_rfl) (by kernel_rfl) (fun _ _ _ h => h) (Or.inl ⟨by rfl, ?hya8⟩) hHeld ?_
        case hya8 => (intro w hSw; go_simp; try with_reducible rfl)
        simp only [Act.put, List.setIfInBounds_toArray, List.set_cons_zero, List.set_cons_succ, List.getElem_toArray, List.getElem_cons_zero, List.getElem_cons_succ]
        refine wpAnyH_take (i := 9) (v := ?va9) rfl (by kernel_rfl) (by kernel_rfl) (by kernel_rfl) (fun _ _ _ h => h) (Or.inl ⟨by rfl, ?hya9⟩) hHeld ?_
        case hya9 => (intro w hSw; go_simp; try with_reducible rfl)
        simp only [Act.put, List.setIfInBounds_toArray, List.set_cons_zero, List.set_cons_succ, List.getElem_toArray, List.getElem_cons_zero, List.getElem_cons_succ]
        refine wpAnyH_done (by kernel_rfl) ?_ _
        refine NoPanic.normal ?_
        go_wp2
        go_ret3
        refine ⟨?_, xr.trans xd⟩
        unfold cutV
        rw [HI.out, if_neg (by omega)]
        rfl
      · have hn : ¬ (s[k].toNat : Int) = 47 := fun e => hc (UInt8.toNat_inj.1 (by show s[k].toNat = 47; omega))
        have hn' : ((s[k].toNat : Int) == 47) = false := by simpa using hn
        have HC := Lib.hid hc
        clear hc
        go_wp2_with fail
        go_roundg (s.size - (k + 1))
        case measure => omega
        case rel =>
          refine ⟨k + 1, by omega, by omega, by go_num, fun j hj hj1 => ?_, xr⟩
          by_cases e : j = k
          · subst e; exact HC.out
          · exact H0.out j hj (by omega)
    · obtain rfl : k = s.size := by omega
      have hi := index_no fun j hj => H0.out j hj hj
      have HI := Lib.hid hi
      clear hi
      go_wp2
      go_ret3
      refine ⟨?_, xr⟩
      unfold cutV
      rw [HI.out, if_pos rfl]
      rfl

/-- Is a text a path of at most k names? -/
def pathN : Nat → ByteArray → Bool
  | 0, _ => false
  | k + 1, s => if Lib.indexByte s.data.toList 47 = -1 then nameB s else nameB (s.extract 0 (Lib.indexByte s.data.toList 47).toNat) && pathN k (s.extract ((Lib.indexByte s.data.toList 47).toNat + 1) s.size)
theorem partsB_pos (s : ByteArray) : 0 < (partsB s).length := by
  have hge := Lib.indexByte_ge s.data.toList 47
  by_cases hn : Lib.indexByte s.data.toList 47 = -1
  · rw [partsB_none hn]; simp
  · rw [(partsB_some (i := (Lib.indexByte s.data.toList 47).toNat) (by omega)).1]; simp
theorem pathN_is : ∀ (k : Nat) (s : ByteArray), pathN k s = (decide ((partsB s).length ≤ k) && (partsB s).all nameB)
  | 0, s => by
    have := partsB_pos s
    rw [decide_eq_false (by omega)]
    rfl
  | k + 1, s => by
    have hge := Lib.indexByte_ge s.data.toList 47
    unfold pathN
    by_cases hn : Lib.indexByte s.data.toList 47 = -1
    · rw [if_pos hn, partsB_none hn]
      simp
    · rw [if_neg hn, (partsB_some (i := (Lib.indexByte s.data.toList 47).toNat) (by omega)).1, pathN_is k]
      rw [List.length_cons, List.all_cons]
      have e : decide ((partsB (s.extract ((Lib.indexByte s.data.toList 47).toNat + 1) s.size)).length + 1 ≤ k + 1) = decide ((partsB (s.extract ((Lib.indexByte s.data.toList 47).toNat + 1) s.size)).length ≤ k) := by
        apply decide_eq_decide.2; omega
      rw [e]
      cases nameB (s.extract 0 (Lib.indexByte s.data.toList 47).toNat) <;> simp

set_option maxHeartbeats 4000000 in
set_option maxRecDepth 100000 in
theorem refPath (w : World) (s : ByteArray) (hs : s.size ≤ 140737488355328) :
    Calls Tryd.prog 34 #[.string s] w fun e w' => e = .returned (.bool (pathB s)) ∧ Ext w w' := by
  by_cases hb : (64 : Int) < (s.size : Int)
  · have hp : pathB s = false := by unfold pathB; rw [decide_eq_false (show ¬ s.size ≤ 64 by omega)]; rfl
    rw [hp]
    go_enter Tryd.func34, Tryd.ntmps34
    go_wp2
    go_ret
    exact ⟨rfl, Ext.refl _⟩
  · have hp : pathB s = pathN 4 s := by unfold pathB; rw [pathN_is, decide_eq_true (show s.size ≤ 64 by omega)]; rfl
    rw [hp]
    obtain ⟨R, hR⟩ : ∃ R, pathN 4 s = R := ⟨_, rfl⟩
    rw [hR]
    clear hp
    go_enter Tryd.func34, Tryd.ntmps34
    go_wp2
    go_loopg [0, 3] 4 (fun g s0 s3 wr => ∃ (n : Nat) (r : ByteArray), n ≤ 4 ∧ 4 - n ≤ g ∧ s0 = .string r ∧ s3 = .int .i64 (n : Int) ∧ r.size ≤ 64 ∧ pathN (4 - n) r = R ∧ Ext w wr)
    case atStart => exact ⟨0, s, by omega, by omega, rfl, rfl, by omega, hR, Ext.refl _⟩
    case round =>
      clear hb hR hs
      obtain ⟨n, r, hn, hg, rfl, rfl, hr, hp, xr⟩ := hrel
      by_cases hlt : n < 4
      · have hge := Lib.indexByte_ge r.data.toList 47
        have hp2 : pathN (3 - n + 1) r = R := by rw [show 3 - n + 1 = 4 - n from by omega]; exact hp
        unfold pathN at hp2
        clear hp
        go_wp2_with fail
        refine Calls.mono (refCut _ r (by omega)) ?_
        rintro e w1 ⟨rfl, x1⟩
        have X1 := xr.trans x1
        unfold cutV
        by_cases hi : Lib.indexByte r.data.toList 47 = -1
        · rw [if_pos hi] at hp2 ⊢
          clear hi hge
          have HP := Lib.hid hp2
          clear hp2
          go_wp2_with fail
          refine Calls.mono (refName _ r (by omega)) ?_
          rintro e w2 ⟨rfl, rfl⟩
          rw [HP.out]
          cases R with
          | true => go_wp2; go_ret; exact ⟨rfl, X1⟩
          | false => go_wp2; go_ret; exact ⟨rfl, X1⟩
        · rw [if_neg hi] at hp2 ⊢
          obtain ⟨i, hii⟩ : ∃ i, (Lib.indexByte r.data.toList 47).toNat = i := ⟨_, rfl⟩
          rw [hii] at hp2 ⊢
          clear hi hge hii
          have h1 : (r.extract 0 i).size ≤ 64 := by rw [ByteArray.size_extract]; omega
          have h2 : (r.extract (i + 1) r.size).size ≤ 64 := by rw [ByteArray.size_extract]; omega
          generalize r.extract 0 i = a at *
          generalize r.extract (i + 1) r.size = b at *
          have HP := Lib.hid hp2
          clear hp2
          go_wp2_with fail
          refine Calls.mono (refName _ a (by omega)) ?_
          rintro e w2 ⟨rfl, rfl⟩
          cases hna : nameB a with
          | false =>
            have hRf : R = false := by rw [← HP.out, hna]; rfl
            subst hRf
            clear hna
            go_wp2
            go_ret
            exact ⟨rfl, X1⟩
          | true =>
            have hRf : pathN (3 - n) b = R := by rw [← HP.out, hna]; rfl
            have HR := Lib.hid hRf
            clear hna hRf
            go_wp2_with fail
            go_roundg (4 - (n + 1))
            case measure => omega
            case rel => exact ⟨n + 1, b, by omega, by omega, rfl, by go_num, h2, by rw [← HR.out]; congr 1; omega, X1⟩
      · obtain rfl : n = 4 := by omega
        have hRf : R = false := by rw [← hp]; rfl
        subst hRf
        clear hp
        go_wp2
        go_ret
        exact ⟨rfl, xr⟩
end Go.Proofs.YtpcpcjejdngllaaDoor
