/- The walk of the reference's Change: the edits of a change, byte by byte. -/
import Derived.Test.YtgcbkhmaabmdjaaDoorEtX
import Derived.Test.YtgcbkhmaabmdjaaDoorFlL
import Derived.Deep.Cut
import Derived.Deep.DeepCutAuto
import Derived.BigGuardPart
namespace Go.Proofs.YtgcbkhmaabmdjaaDoor
open Go.RowKit
set_option linter.unusedVariables false
set_option linter.unusedSimpArgs false

def restL (path : ByteArray) (n next : Nat) (fresh : List UInt8) (i : Nat) (b : List (UInt8 × Int)) : List Ed := if i ≤ b.length then changeL path n next fresh (b.drop i) else []
theorem ba_snoc (F : ByteArray) (c : UInt8) : (F ++ (⟨#[c]⟩ : ByteArray)).data.toList = F.data.toList ++ [c] := by
  rw [ByteArray.data_append, Array.toList_append]
theorem IsB_one (w : World) (c : UInt8) : IsB (w.alloc (.cells #[.int .u8 (c.toNat : Int)] 5)) (.slice (some ⟨w.heap.size, 0, none⟩) 1 1) [c] := by
  have h : IsSl (w.alloc (.cells #[.int .u8 (c.toNat : Int)] 5)) (.slice (some ⟨w.heap.size, 0, none⟩) 1 1) 1 1 [bc c] := sl_one_new (w := w) (n := 1) (e := 5) (Q := [bc c]) rfl rfl
  exact h
set_option maxHeartbeats 8000000 in
set_option maxRecDepth 100000 in
theorem refChange (w : World) (path : ByteArray) (n : Nat) (v : Value) (b : List (UInt8 × Int)) (h : IsY w v b) (hn : n ≤ 1099511627776) (hb : b.length ≤ 100000) (hfr : ∀ x ∈ b, -9223372036854775808 ≤ x.2 ∧ x.2 ≤ 1099511627776) :
    Calls Tryd.prog 42 #[.string path, .int .i64 (n : Int), v] w fun e w' => ∃ v', e = .returned v' ∧ w'.ownsRow w.heap.size 40 4 v' (changeL path n 0 [] b).length ((changeL path n 0 [] b).flatMap edC) ∧ Ext w w' := by
  obtain ⟨zE, tyE⟩ := tyEd
  obtain ⟨R, hR⟩ : ∃ R, changeL path n 0 [] b = R := ⟨_, rfl⟩
  rw [hR]
  obtain ⟨ao, cap, rfl, b1, m1, z1, g1⟩ := h.opened
  have G1 := Lib.hid g1
  have HFR := Lib.hid hfr
  clear g1 z1 h hfr
  go_enter Tryd.func42, Tryd.ntmps42
  go_wp2_with fail
  go_loopg [7, 8, 9, 10] (b.length + 1) (fun g s7 s8 s9 s10 wr => ∃ (i next : Nat) (F : ByteArray) (O : List Ed), i ≤ b.length + 1 ∧ b.length + 1 - i ≤ g ∧ s10 = .int .i64 (i : Int) ∧ s8 = .int .i64 (next : Int) ∧ s9 = .string F ∧ O ++ restL path n next F.data.toList i b = R ∧ O.length ≤ i ∧ next ≤ 1099511627777 ∧ F.size ≤ i ∧ wr.ownsRow w.heap.size 40 4 s7 O.length (O.flatMap edC) ∧ Ext w wr)
  case atStart => exact ⟨0, 0, ⟨#[]⟩, [], by omega, by omega, rfl, rfl, rfl, by rw [← hR]; show [] ++ restL path n 0 [] 0 b = _; unfold restL; rw [if_pos (Nat.zero_le _)]; rfl, by simp, by omega, Nat.zero_le _, World.ownsRow_nil _ _ _ _, Ext.refl _⟩
  case round =>
    obtain ⟨i, next, F, O, hi, hg, rfl, rfl, rfl, heq, hO, hnx, hFs, own, xr⟩ := hrel
    have HEQ := Lib.hid heq
    have xs := xr.size
    clear heq
    by_cases hle : i ≤ b.length
    · by_cases hlt : i < b.length
      · obtain ⟨pb, o, rfl, e0, e1⟩ := G1.out i hlt
        have e0 := xr.cell e0
        have e1 := xr.cell e1
        have hfx := HFR.out _ (List.getElem_mem hlt)
        have hd := List.drop_eq_getElem_cons hlt
        have hst : restL path n next F.data.toList i b = changeL path n next F.data.toList (b[i] :: b.drop (i + 1)) := by unfold restL; rw [if_pos hle, hd]
        have hnx2 : ∀ (nx : Nat) (fr : List UInt8), restL path n nx fr (i + 1) b = changeL path n nx fr (b.drop (i + 1)) := fun nx fr => by unfold restL; rw [if_pos (by omega)]
        have HNX := Lib.hid hnx2
        have HST0 := Lib.hid hst
        generalize b[i] = x at *
        obtain ⟨c, z⟩ := x
        dsimp only at e0 e1 hfx
        clear hd hst hnx2
        by_cases hz : z < 0
        · have HST := Lib.hid (show restL path n next F.data.toList i b = changeL path n next (F ++ (⟨#[c]⟩ : ByteArray)).data.toList (b.drop (i + 1)) by rw [HST0.out, changeL, if_pos hz, ba_snoc])
          have hcv := conv_str (P := Tryd.prog) (w := wr.alloc (.cells #[.int .u8 (c.toNat : Int)] 5)) (v := .slice (some ⟨wr.heap.size, 0, none⟩) 1 1) (l := [c]) (IsB_one wr c) 77 9 5 Tryd.underlying77 Tryd.underlying5 Tryd.underlying9
          go_wp2
          go_roundg (b.length + 1 - (i + 1))
          case measure => omega
          case rel =>
            refine ⟨i + 1, next, F ++ (⟨#[c]⟩ : ByteArray), O, by omega, by omega, by go_num, rfl, rfl, ?_, by omega, hnx, ?_, own.alloc _, xr.alloc _⟩
            · rw [HNX.out, ← HST.out, HEQ.out]
            · rw [ByteArray.size_append]
              have : (⟨#[c]⟩ : ByteArray).size = 1 := rfl
              omega
        · obtain ⟨z, rfl⟩ : ∃ m : Nat, z = m := ⟨z.toNat, by omega⟩
          have hz' : ¬ (z : Int) < 0 := hz
          have HST := Lib.hid (show restL path n next F.data.toList i b = chgE path next z F.data.toList ++ changeL path n (z + 1) [] (b.drop (i + 1)) by rw [HST0.out, changeL, if_neg hz]; rfl)
          clear HST0
          by_cases h1 : next < z
          · have hem : next < z ∨ F.data.toList ≠ [] := .inl h1
            have hwr : IntKind.i64.wrap ((z : Int) - (next : Int)) = (z : Int) - (next : Int) := wrap64_small (by omega) (by omega)
            have HE := Lib.hid (show chgE path next z F.data.toList = [⟨path, (next : Int), (z : Int) - (next : Int), F⟩] by unfold chgE; rw [if_pos hem, ba_of rfl])
            go_wp2_with (at_builtin; go_must (refine wp_app tyE rfl _ _ rfl w.heap.size _ O.length _ (own.alloc _) (by rfl) _ 1 (edC ⟨path, (next : Int), (z : Int) - (next : Int), F⟩) (sl_one_new (w := wr) (n := 4) (e := 40) (Q := edC ⟨path, (next : Int), (z : Int) - (next : Int), F⟩) rfl rfl) (by rfl) (edC_one1 _) (by omega) (by omega) (by simp; omega) ?_); intro v4 w4 own4 gr4)
            have x4 := own_base (own.alloc _) gr4 (xr.alloc _) (Nat.le_refl _)
            go_roundg (b.length + 1 - (i + 1))
            case measure => omega
            case rel =>
              refine ⟨i + 1, z + 1, ⟨#[]⟩, O ++ [⟨path, (next : Int), (z : Int) - (next : Int), F⟩], by omega, by omega, by go_num, by go_num, rfl, ?_, by rw [List.length_append, List.length_singleton]; omega, by omega, Nat.zero_le _, ?_, x4⟩
              · rw [show ((⟨#[]⟩ : ByteArray)).data.toList = [] from rfl, HNX.out, ← HEQ.out, HST.out, HE.out, List.append_assoc]
              · rw [List.length_append, List.flatMap_append]
                simpa using own4
          · have h1' : ¬ (next : Int) < (z : Int) := by omega
            cases h2 : F.toList.isEmpty with
            | true =>
              have hem : ¬ (next < z ∨ F.data.toList ≠ []) := fun q => q.elim h1 (fun r => r (by rw [ByteArray.toList_eq] at h2; simpa using h2))
              have HE := Lib.hid (show chgE path next z F.data.toList = [] by unfold chgE; rw [if_neg hem])
              go_wp2
              go_roundg (b.length + 1 - (i + 1))
              case measure => omega
              case rel =>
                refine ⟨i + 1, z + 1, ⟨#[]⟩, O, by omega, by omega, by go_num, by go_num, rfl, ?_, by omega, by omega, Nat.zero_le _, own, xr⟩
                rw [show ((⟨#[]⟩ : ByteArray)).data.toList = [] from rfl, HNX.out, ← HEQ.out, HST.out, HE.out, List.nil_append]
            | false =>
              have hem : next < z ∨ F.data.toList ≠ [] := .inr (fun r => by rw [ByteArray.toList_eq, r] at h2; cases h2)
              have hwr : IntKind.i64.wrap ((z : Int) - (next : Int)) = (z : Int) - (next : Int) := wrap64_small (by omega) (by omega)
              have HE := Lib.hid (show chgE path next z F.data.toList = [⟨path, (next : Int), (z : Int) - (next : Int), F⟩] by unfold chgE; rw [if_pos hem, ba_of rfl])
              go_wp2_with (at_builtin; go_must (refine wp_app tyE rfl _ _ rfl w.heap.size _ O.length _ (own.alloc _) (by rfl) _ 1 (edC ⟨path, (next : Int), (z : Int) - (next : Int), F⟩) (sl_one_new (w := wr) (n := 4) (e := 40) (Q := edC ⟨path, (next : Int), (z : Int) - (next : Int), F⟩) rfl rfl) (by rfl) (edC_one1 _) (by omega) (by omega) (by simp; omega) ?_); intro v4 w4 own4 gr4)
              have x4 := own_base (own.alloc _) gr4 (xr.alloc _) (Nat.le_refl _)
              go_roundg (b.length + 1 - (i + 1))
              case measure => omega
              case rel =>
                refine ⟨i + 1, z + 1, ⟨#[]⟩, O ++ [⟨path, (next : Int), (z : Int) - (next : Int), F⟩], by omega, by omega, by go_num, by go_num, rfl, ?_, by rw [List.length_append, List.length_singleton]; omega, by omega, Nat.zero_le _, ?_, x4⟩
                · rw [show ((⟨#[]⟩ : ByteArray)).data.toList = [] from rfl, HNX.out, ← HEQ.out, HST.out, HE.out, List.append_assoc]
                · rw [List.length_append, List.flatMap_append]
                  simpa using own4
      · obtain rfl : i = b.length := by omega
        have HST := Lib.hid (show restL path n next F.data.toList b.length b = chgE path next n F.data.toList ++ [] by unfold restL; rw [if_pos hle, List.drop_length, changeL, List.append_nil])
        have HNX := Lib.hid (show ∀ (nx : Nat) (fr : List UInt8), restL path n nx fr (b.length + 1) b = [] from fun nx fr => by unfold restL; rw [if_neg (by omega)])
        have hll : ¬ (b.length : Int) < (b.length : Int) := by omega
        by_cases h1 : next < n
        · have hem : next < n ∨ F.data.toList ≠ [] := .inl h1
          have hwr : IntKind.i64.wrap ((n : Int) - (next : Int)) = (n : Int) - (next : Int) := wrap64_small (by omega) (by omega)
          have HE := Lib.hid (show chgE path next n F.data.toList = [⟨path, (next : Int), (n : Int) - (next : Int), F⟩] by unfold chgE; rw [if_pos hem, ba_of rfl])
          go_wp2_with (at_builtin; go_must (refine wp_app tyE rfl _ _ rfl w.heap.size _ O.length _ (own.alloc _) (by rfl) _ 1 (edC ⟨path, (next : Int), (n : Int) - (next : Int), F⟩) (sl_one_new (w := wr) (n := 4) (e := 40) (Q := edC ⟨path, (next : Int), (n : Int) - (next : Int), F⟩) rfl rfl) (by rfl) (edC_one1 _) (by omega) (by omega) (by simp; omega) ?_); intro v4 w4 own4 gr4)
          have x4 := own_base (own.alloc _) gr4 (xr.alloc _) (Nat.le_refl _)
          go_roundg (b.length + 1 - (b.length + 1))
          case measure => omega
          case rel =>
            refine ⟨b.length + 1, n + 1, ⟨#[]⟩, O ++ [⟨path, (next : Int), (n : Int) - (next : Int), F⟩], by omega, by omega, by go_num, by go_num, rfl, ?_, by rw [List.length_append, List.length_singleton]; omega, by omega, Nat.zero_le _, ?_, x4⟩
            · rw [HNX.out, ← HEQ.out, HST.out, HE.out, List.append_assoc]
            · rw [List.length_append, List.flatMap_append]
              simpa using own4
        · have h1' : ¬ (next : Int) < (n : Int) := by omega
          cases h2 : F.toList.isEmpty with
          | true =>
            have hem : ¬ (next < n ∨ F.data.toList ≠ []) := fun q => q.elim h1 (fun r => r (by rw [ByteArray.toList_eq] at h2; simpa using h2))
            have HE := Lib.hid (show chgE path next n F.data.toList = [] by unfold chgE; rw [if_neg hem])
            go_wp2
            go_roundg (b.length + 1 - (b.length + 1))
            case measure => omega
            case rel =>
              refine ⟨b.length + 1, n + 1, ⟨#[]⟩, O, by omega, by omega, by go_num, by go_num, rfl, ?_, by omega, by omega, Nat.zero_le _, own, xr⟩
              rw [HNX.out, ← HEQ.out, HST.out, HE.out, List.nil_append]
          | false =>
            have hem : next < n ∨ F.data.toList ≠ [] := .inr (fun r => by rw [ByteArray.toList_eq, r] at h2; cases h2)
            have hwr : IntKind.i64.wrap ((n : Int) - (next : Int)) = (n : Int) - (next : Int) := wrap64_small (by omega) (by omega)
            have HE := Lib.hid (show chgE path next n F.data.toList = [⟨path, (next : Int), (n : Int) - (next : Int), F⟩] by unfold chgE; rw [if_pos hem, ba_of rfl])
            go_wp2_with (at_builtin; go_must (refine wp_app tyE rfl _ _ rfl w.heap.size _ O.length _ (own.alloc _) (by rfl) _ 1 (edC ⟨path, (next : Int), (n : Int) - (next : Int), F⟩) (sl_one_new (w := wr) (n := 4) (e := 40) (Q := edC ⟨path, (next : Int), (n : Int) - (next : Int), F⟩) rfl rfl) (by rfl) (edC_one1 _) (by omega) (by omega) (by simp; omega) ?_); intro v4 w4 own4 gr4)
            have x4 := own_base (own.alloc _) gr4 (xr.alloc _) (Nat.le_refl _)
            go_roundg (b.length + 1 - (b.length + 1))
            case measure => omega
            case rel =>
              refine ⟨b.length + 1, n + 1, ⟨#[]⟩, O ++ [⟨path, (next : Int), (n : Int) - (next : Int), F⟩], by omega, by omega, by go_num, by go_num, rfl, ?_, by rw [List.length_append, List.length_singleton]; omega, by omega, Nat.zero_le _, ?_, x4⟩
              · rw [HNX.out, ← HEQ.out, HST.out, HE.out, List.append_assoc]
              · rw [List.length_append, List.flatMap_append]
                simpa using own4
    · obtain rfl : i = b.length + 1 := by omega
      have hOR : O = R := by rw [← HEQ.out]; unfold restL; rw [if_neg hle, List.append_nil]
      subst hOR
      go_wp2
      go_ret
      exact ⟨_, rfl, own, xr⟩
end Go.Proofs.YtgcbkhmaabmdjaaDoor

namespace Go.Proofs.YtgcbkhmaabmdjaaDoor
open Go.RowKit
set_option linter.unusedVariables false
set_option linter.unusedSimpArgs false

theorem bytes_from (a b : List Ed) (f : Fl) {fs : List Fl} (h : Both fs a b f) : ∀ x ∈ bytesE a b f, -9223372036854775808 ≤ x.2 ∧ x.2 ≤ 1099511627776 := by
  have hk : KbOk f.text.data.toList (bytesE a b f) := kbOk_do (kbOk_do (kbOk_plain _) _ (by rw [plain_fst_len]; exact h.okA)) _ h.okB
  have hmin : ∀ (l : List Ed) (b : List (UInt8 × Int)) (n : Nat), (∀ x ∈ b, -1 ≤ x.2) → ∀ x ∈ doB b n l, -1 ≤ x.2 := by
    intro l
    induction l with
    | nil => intro b n hb x hx; exact hb x (List.mem_of_mem_drop hx)
    | cons e l ih =>
      intro b n hb x hx
      rw [doB, List.mem_append, List.mem_append] at hx
      rcases hx with (hx | hx) | hx
      · exact hb x (List.mem_of_mem_drop (List.mem_of_mem_take hx))
      · obtain ⟨c, _, rfl⟩ := List.mem_map.1 hx
        exact Int.le_refl _
      · exact ih b _ hb x hx
  intro x hx
  have h1 : -1 ≤ x.2 := hmin _ _ _ (hmin _ _ _ (fun y hy => by
    obtain ⟨i, _, rfl⟩ := List.mem_map.1 hy
    simp only
    omega)) x hx
  refine ⟨by omega, ?_⟩
  by_cases h0 : 0 ≤ x.2
  · have hm : x ∈ kb (bytesE a b f) := List.mem_filter.2 ⟨hx, by simpa using h0⟩
    have := (List.getElem?_eq_some_iff.1 (hk.2 x hm).2).1
    rw [ba_len] at this
    have := h.fle
    omega
  · omega
theorem hA_len (a : List Ed) (p : ByteArray) (h : a.length ≤ 1000000) : (ofL a p).length ≤ 1000000 := Nat.le_trans (ofL_len _ _) h
theorem isY_own {w : World} {base : Nat} {v : Value} {n : Nat} {b : List (UInt8 × Int)} (h : w.ownsRow base 95 2 v n (b.flatMap byC)) : IsY w v b := by
  have h1 := IsSl.of_owns h
  have : n = b.length := by
    have := h1.1
    have e : (b.flatMap byC).length = b.length * 2 := by
      clear h1 h this
      induction b with
      | nil => rfl
      | cons x b ih => rw [List.flatMap_cons, List.length_append, ih, List.length_cons]; show 2 + _ = _; omega
    omega
  subst this
  exact h1
set_option maxHeartbeats 8000000 in
set_option maxRecDepth 100000 in
theorem refThen18 (w : World) (v : Value) (fs : List Fl) (va vb : Value) (a b : List Ed) (hF : IsF w v fs) (hA : IsE w va a) (hB : IsE w vb b) (lA : a.length ≤ 1000000) (lB : b.length ≤ 1000000) (hca : chk a = true) (hcb : chk b = true) (hr : repoB fs = true) :
    Calls Tryd.prog 23 #[.agg #[v], va, vb] w (ThEnd (thenR fs a b) w) := by
  obtain ⟨zE, tyE⟩ := tyEd
  have b0 := heap_alloc_new w (.cells #[v] 24)
  have X0 : Ext w (w.alloc (.cells #[v] 24)) := (Ext.refl w).alloc _
  have HF := Lib.hid (hF.ext X0)
  have HA := Lib.hid (hA.ext X0)
  have HB := Lib.hid (hB.ext X0)
  obtain ⟨ao, cap, rfl, _, _, _, _⟩ := hF.opened
  clear hF hA hB
  obtain ⟨R, hR⟩ : ∃ R, thenR fs a b = R := ⟨_, rfl⟩
  rw [hR]
  unfold thenR at hR
  rw [hca, hcb] at hR
  have HR := Lib.hid (show R = if (applyL fs a).2 ≠ 0 then ([], (applyL fs a).2) else if (applyL (fs.map (updF a)) b).2 ≠ 0 then ([], (applyL (fs.map (updF a)) b).2) else (thenL fs a b, 0) by rw [← hR]; rfl)
  clear hR
  have HCA := Lib.hid hca
  have HCB := Lib.hid hcb
  have HRR := Lib.hid hr
  clear hca hcb hr
  go_enter Tryd.func23, Tryd.ntmps23
  go_wp2_with ((with_reducible refine at_load 24 (.tmp 3) ?_); refine wpl_load (by rfl) 24 (.tmp 3) rfl w.heap.size (by rfl) 24 #[.slice ao fs.length cap] (0, 0) _ b0 Tryd.underlying24 rfl (info1 _) ?_)
  refine Calls.mono (refApply _ _ fs _ a HF.out HA.out lA HCA.out HRR.out) ?_
  rintro e w3 ⟨v3, rfl, own3, x3⟩
  obtain ⟨D, hD⟩ : ∃ D, applyL fs a = D := ⟨_, rfl⟩
  rw [hD] at own3 ⊢
  have HAP := Lib.hid (fun h => @apply_ok fs a h)
  obtain ⟨_, a3, c3, rfl, _⟩ := IsSl.of_owns own3
  have X3 := X0.trans x3
  by_cases hz : D.2 = 0
  · have hz2 : (D.2 != 0) = false := by rw [hz]; rfl
    obtain ⟨hc1, hr1, hh1, hfit1, hlong1, hsum1, he1⟩ := HAP.out (by rw [hD]; exact hz)
    have hDe : D = (fs.map (updF a), 0) := by rw [← hD]; exact he1
    have hz0 : (applyL fs a).2 = 0 := by rw [hD]; exact hz
    have HZ := Lib.hid hz0
    subst hDe
    dsimp only at own3 ⊢
    have okS := upd_flOkE HF.out.ok hlong1
    have IS := owns_isFE own3 okS
    have hlS : (fs.map (updF a)).length = fs.length := List.length_map ..
    rw [hlS] at IS ⊢
    have HRS := Lib.hid (repo_map (updF a) (upd_path a) hr1 hlong1 hsum1)
    have bS := heap_alloc_new w3 (.cells #[.slice a3 fs.length c3] 24)
    have xS : Ext w3 (w3.alloc (.cells #[.slice a3 fs.length c3] 24)) := (Ext.refl w3).alloc _
    replace IS := IS.ext xS
    replace HF := Lib.hid (HF.out.ext (x3.trans xS))
    replace HA := Lib.hid (HA.out.ext (x3.trans xS))
    replace HB := Lib.hid (HB.out.ext (x3.trans xS))
    have b4 := (x3.trans xS).keeps b0
    have X4 := X3.trans xS
    replace HR := Lib.hid (show R = if (applyL (fs.map (updF a)) b).2 ≠ 0 then ([], (applyL (fs.map (updF a)) b).2) else (thenL fs a b, 0) by rw [HR.out, if_neg (by rw [hz0]; simp)])
    clear hD HAP hc1 hh1 hfit1 hsum1 he1 hz hz0 own3 X3 X0 b0 x3 xS hz2
    go_upto_region 4 with fail
    generalize w3.alloc (.cells #[.slice a3 fs.length c3] 24) = w4 at *
    generalize w3.heap.size = SB at *
    go_wp2_with ((with_reducible refine at_load 24 (.tmp 8) ?_); refine wpl_load (by rfl) 24 (.tmp 8) rfl SB (by rfl) 24 #[.slice a3 fs.length c3] (0, 0) _ bS Tryd.underlying24 rfl (info1 _) ?_)
    refine Calls.mono (refApply _ _ (fs.map (updF a)) _ b IS HB.out lB HCB.out HRS.out) ?_
    rintro e w5 ⟨v5, rfl, own5, x5⟩
    obtain ⟨D, hD⟩ : ∃ D, applyL (fs.map (updF a)) b = D := ⟨_, rfl⟩
    rw [hD] at own5 ⊢
    obtain ⟨_, a5, c5, rfl, _⟩ := IsSl.of_owns own5
    have X5 := X4.trans x5
    by_cases hz : D.2 = 0
    · have hz2 : (D.2 != 0) = false := by rw [hz]; rfl
      have hz0 : (applyL (fs.map (updF a)) b).2 = 0 := by rw [hD]; exact hz
      have hRe : R = (thenL fs a b, 0) := by rw [HR.out, if_neg (by rw [hz0]; simp)]
      subst hRe
      have HBO := Lib.hid (both_of HZ.out hz0)
      have h16 := (repo_sum hr1).1
      have xT : Ext w5 (w5.alloc (.cells #[.slice a5 D.1.length c5] 24)) := (Ext.refl w5).alloc _
      replace HF := Lib.hid (HF.out.ext (x5.trans xT))
      replace HA := Lib.hid (HA.out.ext (x5.trans xT))
      replace HB := Lib.hid (HB.out.ext (x5.trans xT))
      have b6 := (x5.trans xT).keeps b4
      have X6 := X5.trans xT
      clear hD hz hz0 own5 X5 X4 b4 bS x5 xT HR hlong1 hr1 IS okS hlS
      go_upto_region 8 with fail
      have hG6 := X6.size
      generalize w5.alloc (.cells #[.slice a5 D.1.length c5] 24) = w6 at *
      have cR := (block_cell b6 0).trans (show _ = some (Value.slice ao fs.length cap) from rfl)
      go_wp2_with fail
      obtain ⟨ao', cap', e1, _, _, _, gF⟩ := HF.out.opened
      simp only [Value.slice.injEq] at e1
      obtain ⟨rfl, -, rfl⟩ := e1
      have GF := Lib.hid gF
      have H16 := Lib.hid h16
      clear gF h16 hz2
      go_loopg [12, 36] fs.length (fun g s12 s36 wr => ∃ (k : Nat), k ≤ fs.length ∧ fs.length - k ≤ g ∧ s36 = .int .i64 (k : Int) ∧ (thenL (fs.take k) a b).length ≤ k * 4097 ∧ wr.ownsRow w6.heap.size 40 4 s12 (thenL (fs.take k) a b).length ((thenL (fs.take k) a b).flatMap edC) ∧ Ext w6 wr)
      case atStart => exact ⟨0, by omega, by omega, rfl, by simp [thenL], World.ownsRow_nil _ _ _ _, Ext.refl _⟩
      case round =>
        obtain ⟨k, hk, hgk, rfl, hlen, own, xr⟩ := hrel
        have HLEN := Lib.hid hlen
        clear hlen
        by_cases hlt : k < fs.length
        · obtain ⟨pb, o, rfl, e0, e1⟩ := GF.out k hlt
          have e0 := xr.cell e0
          have e1 := xr.cell e1
          have HTK := Lib.hid (then_take (a := a) (b := b) hlt)
          have HBF := Lib.hid (HBO.out _ (List.getElem_mem hlt))
          have HTL := Lib.hid (thenE_len a b fs[k] HBF.out)
          generalize fs[k] = f at *
          generalize thenL (fs.take k) a b = O at *
          have bF := heap_alloc_new wr (.cells #[.string f.path, .string f.text] 42)
          have xA : Ext wr (wr.alloc (.cells #[.string f.path, .string f.text] 42)) := (Ext.refl wr).alloc _
          have own := own.alloc (.cells #[.string f.path, .string f.text] 42)
          have x7 := xr.trans xA
          clear xA
          go_upto_region 11 with fail
          generalize wr.alloc (.cells #[.string f.path, .string f.text] 42) = w7 at *
          generalize wr.heap.size = FB at *
          have KF := fun v (h : Ext w7 v) => blkA (h.keeps bF)
          have hF := HBF.out
          have hst : f.text.data.toList.length = f.text.size := ba_len _
          have hfl := hF.fle
          have hml := hF.mle
          have hle := hF.le
          have HmA := Lib.hid (hA_len a f.path lA)
          have HmB := Lib.hid (hA_len b f.path lB)
          have HD1 := Lib.hid (fun (W : World) (vA u : Value) (hMA : IsE W vA (ofL a f.path)) (hu : IsY W u (plainN f.text.data.toList f.text.size)) => refDo W vA (ofL a f.path) u _ hMA hu (by rw [plainN_len, ← ba_len]; exact hF.okA) (hA_len a f.path lA) (by rw [plainN_len]; omega))
          have HD2 := Lib.hid (fun (W : World) (vB u : Value) (hMB : IsE W vB (ofL b f.path)) (hu : IsY W u (doB (plainN f.text.data.toList f.text.size) 0 (ofL a f.path))) => refDo W vB (ofL b f.path) u _ hMB hu (by have := hF.okB; rw [ba_len] at this; exact this) (hA_len b f.path lB) (by have := hF.mid; rw [ba_len] at this; omega))
          have HD3 := Lib.hid (fun (W : World) (u : Value) (hu : IsY W u (bytesE a b f)) => refChange W f.path f.text.size u (bytesE a b f) hu (by omega) (by have := hF.len; omega) (bytes_from a b f hF))
          have HBY := Lib.hid (show bytesE a b f = doB (doB (plainN f.text.data.toList f.text.size) 0 (ofL a f.path)) 0 (ofL b f.path) by unfold bytesE; rw [ba_len])
          have HTH := Lib.hid (show changeL f.path f.text.size 0 [] (bytesE a b f) = thenE a b f by unfold thenE; rw [ba_len])
          clear hF hst hfl hml hle e0 e1
          refine wp_region_G 20 (fun v => Ext w7 v) (by kernel_rfl) fun wd hqd hHeld => ?_
          refine G_pure (i := 0) (u := ?vth0) rfl (by kernel_rfl) (by kernel_rfl) (by kernel_rfl) (fun _ _ _ h => h) (by decide) (Or.inl ⟨by rfl, ?hyth0⟩) hHeld ?_
          case hyth0 => (intro w hSw; go_simp; try with_reducible rfl)
          simp only [Act.put, List.setIfInBounds_toArray, List.set_cons_zero, List.set_cons_succ, List.getElem_toArray, List.getElem_cons_zero, List.getElem_cons_succ]
          refine G_pure (i := 1) (u := ?vth1) rfl (by kernel_rfl) (by kernel_rfl) (by kernel_rfl) (fun _ _ _ h => h) (by decide) (Or.inl ⟨by rfl, ?hyth1⟩) hHeld ?_
          case hyth1 => (intro w hSw; go_simp; try with_reducible rfl)
          simp only [Act.put, List.setIfInBounds_toArray, List.set_cons_zero, List.set_cons_succ, List.getElem_toArray, List.getElem_cons_zero, List.getElem_cons_succ]
          refine C_take (i := 2) (u := ?vth2) [19, 20] rfl (by kernel_rfl) (by kernel_rfl) (by kernel_rfl) (fun _ _ _ h => h) (by kernel_rfl) (by kernel_rfl) (by kernel_rfl) (by kernel_rfl) (Or.inl ⟨by rfl, ?hyth2⟩) hHeld ?_
          case hyth2 => (intro w hSw; have kk := KF _ hSw; go_simp; try with_reducible rfl)
          simp only [Act.put, List.setIfInBounds_toArray, List.set_cons_zero, List.set_cons_succ, List.getElem_toArray, List.getElem_cons_zero, List.getElem_cons_succ]
          refine G_pure (i := 3) (u := ?vth3) rfl (by kernel_rfl) (by kernel_rfl) (by kernel_rfl) (fun _ _ _ h => h) (by decide) (Or.inl ⟨by rfl, ?hyth3⟩) hHeld ?_
          case hyth3 => (intro w hSw; go_simp; try with_reducible rfl)
          simp only [Act.put, List.setIfInBounds_toArray, List.set_cons_zero, List.set_cons_succ, List.getElem_toArray, List.getElem_cons_zero, List.getElem_cons_succ]
          refine C_take (i := 4) (u := ?vth4) [5, 19, 20] rfl (by kernel_rfl) (by kernel_rfl) (by kernel_rfl) (fun _ _ _ h => h) (by kernel_rfl) (by kernel_rfl) (by kernel_rfl) (by kernel_rfl) (Or.inl ⟨by rfl, ?hyth4⟩) hHeld ?_
          case hyth4 => (intro w hSw; have kk := KF _ hSw; go_simp; try with_reducible rfl)
          simp only [Act.put, List.setIfInBounds_toArray, List.set_cons_zero, List.set_cons_succ, List.getElem_toArray, List.getElem_cons_zero, List.getElem_cons_succ]
          refine C_take (i := 5) (u := ?vth5) [19, 20] rfl (by kernel_rfl) (by kernel_rfl) (by kernel_rfl) (fun _ _ _ h => h) (by kernel_rfl) (by kernel_rfl) (by kernel_rfl) (by kernel_rfl) (Or.inl ⟨by rfl, ?hyth5⟩) hHeld ?_
          case hyth5 => (intro w hSw; go_simp; try with_reducible rfl)
          simp only [Act.put, List.setIfInBounds_toArray, List.set_cons_zero, List.set_cons_succ, List.getElem_toArray, List.getElem_cons_zero, List.getElem_cons_succ]
          refine G_pure (i := 6) (u := ?vth6) rfl (by kernel_rfl) (by kernel_rfl) (by kernel_rfl) (fun _ _ _ h => h) (by decide) (Or.inl ⟨by rfl, ?hyth6⟩) hHeld ?_
          case hyth6 => (intro w hSw; go_simp; try with_reducible rfl)
          simp only [Act.put, List.setIfInBounds_toArray, List.set_cons_zero, List.set_cons_succ, List.getElem_toArray, List.getElem_cons_zero, List.getElem_cons_succ]
          refine C_take (i := 7) (u := ?vth7) [8, 13, 18, 19, 20] rfl (by kernel_rfl) (by kernel_rfl) (by kernel_rfl) (fun _ _ _ h => h) (by kernel_rfl) (by kernel_rfl) (by kernel_rfl) (by kernel_rfl) (Or.inl ⟨by rfl, ?hyth7⟩) hHeld ?_
          case hyth7 => (intro w hSw; have kk := KF _ hSw; go_simp; try with_reducible rfl)
          simp only [Act.put, List.setIfInBounds_toArray, List.set_cons_zero, List.set_cons_succ, List.getElem_toArray, List.getElem_cons_zero, List.getElem_cons_succ]
          refine G_pure (i := 9) (u := ?vth9) rfl (by kernel_rfl) (by kernel_rfl) (by kernel_rfl) (fun _ _ _ h => h) (by decide) (Or.inl ⟨by rfl, ?hyth9⟩) hHeld ?_
          case hyth9 => (intro w hSw; go_simp; try with_reducible rfl)
          simp only [Act.put, List.setIfInBounds_toArray, List.set_cons_zero, List.set_cons_succ, List.getElem_toArray, List.getElem_cons_zero, List.getElem_cons_succ]
          refine G_pure (i := 10) (u := ?vth10) rfl (by kernel_rfl) (by kernel_rfl) (by kernel_rfl) (fun _ _ _ h => h) (by decide) (Or.inl ⟨by rfl, ?hyth10⟩) hHeld ?_
          case hyth10 => (intro w hSw; go_simp; try with_reducible rfl)
          simp only [Act.put, List.setIfInBounds_toArray, List.set_cons_zero, List.set_cons_succ, List.getElem_toArray, List.getElem_cons_zero, List.getElem_cons_succ]
          refine C_take (i := 11) (u := ?vth11) [12, 13, 18, 19, 20] rfl (by kernel_rfl) (by kernel_rfl) (by kernel_rfl) (fun _ _ _ h => h) (by kernel_rfl) (by kernel_rfl) (by kernel_rfl) (by kernel_rfl) (Or.inl ⟨by rfl, ?hyth11⟩) hHeld ?_
          case hyth11 => (intro w hSw; have kk := KF _ hSw; go_simp; try with_reducible rfl)
          simp only [Act.put, List.setIfInBounds_toArray, List.set_cons_zero, List.set_cons_succ, List.getElem_toArray, List.getElem_cons_zero, List.getElem_cons_succ]
          refine G_pure (i := 14) (u := ?vth14) rfl (by kernel_rfl) (by kernel_rfl) (by kernel_rfl) (fun _ _ _ h => h) (by decide) (Or.inl ⟨by rfl, ?hyth14⟩) hHeld ?_
          case hyth14 => (intro w hSw; go_simp; try with_reducible rfl)
          simp only [Act.put, List.setIfInBounds_toArray, List.set_cons_zero, List.set_cons_succ, List.getElem_toArray, List.getElem_cons_zero, List.getElem_cons_succ]
          refine G_pure (i := 15) (u := ?vth15) rfl (by kernel_rfl) (by kernel_rfl) (by kernel_rfl) (fun _ _ _ h => h) (by decide) (Or.inl ⟨by rfl, ?hyth15⟩) hHeld ?_
          case hyth15 => (intro w hSw; go_simp; try with_reducible rfl)
          simp only [Act.put, List.setIfInBounds_toArray, List.set_cons_zero, List.set_cons_succ, List.getElem_toArray, List.getElem_cons_zero, List.getElem_cons_succ]
          refine C_take (i := 16) (u := ?vth16) [17, 18, 19, 20] rfl (by kernel_rfl) (by kernel_rfl) (by kernel_rfl) (fun _ _ _ h => h) (by kernel_rfl) (by kernel_rfl) (by kernel_rfl) (by kernel_rfl) (Or.inl ⟨by rfl, ?hyth16⟩) hHeld ?_
          case hyth16 => (intro w hSw; have kk := KF _ hSw; go_simp; try with_reducible rfl)
          simp only [Act.put, List.setIfInBounds_toArray, List.set_cons_zero, List.set_cons_succ, List.getElem_toArray, List.getElem_cons_zero, List.getElem_cons_succ]
          refine G_all (rs := [8]) (by kernel_rfl) (by simp) ?_
          intro i hi; obtain rfl : i = 8 := by simpa using hi
          refine wpOp_run rfl (by rfl) ?_
          go_simp
          refine Calls.mono (refPlain _ f.text (by have := HBF.out.fle; omega)) ?_
          rintro e w8 ⟨v8, rfl, own8, x8⟩
          have hHeld := hHeld.trans x8
          first | refine ⟨fun _ => hHeld, ?_⟩ | refine ⟨hHeld, ?_⟩
          try simp only [Act.put, List.setIfInBounds_toArray, List.set_cons_zero, List.set_cons_succ, List.getElem_toArray, List.getElem_cons_zero, List.getElem_cons_succ]
          refine G_all (rs := [12]) (by kernel_rfl) (by simp) ?_
          intro i hi; obtain rfl : i = 12 := by simpa using hi
          refine wpOp_run rfl (by rfl) ?_
          go_simp
          refine Calls.mono (refOf _ _ a f.path (HA.out.ext (x7.trans hHeld)) lA) ?_
          rintro e w9 ⟨vA, rfl, hMA, x9⟩
          rw [ofF_chk f.path HCA.out] at hMA
          have own8 := ownsRow_ext own8 x9
          have hHeld := hHeld.trans x9
          first | refine ⟨fun _ => hHeld, ?_⟩ | refine ⟨hHeld, ?_⟩
          try simp only [Act.put, List.setIfInBounds_toArray, List.set_cons_zero, List.set_cons_succ, List.getElem_toArray, List.getElem_cons_zero, List.getElem_cons_succ]
          refine G_all (rs := [13]) (by kernel_rfl) (by simp) ?_
          intro i hi; obtain rfl : i = 13 := by simpa using hi
          refine wpOp_run rfl (by rfl) ?_
          go_simp
          refine Calls.mono (HD1.out _ vA v8 hMA (isY_own own8)) ?_
          rintro e w10 ⟨v10, n10, rfl, own10, hn10, -, x10⟩
          subst hn10
          have hHeld := hHeld.trans x10
          first | refine ⟨fun _ => hHeld, ?_⟩ | refine ⟨hHeld, ?_⟩
          try simp only [Act.put, List.setIfInBounds_toArray, List.set_cons_zero, List.set_cons_succ, List.getElem_toArray, List.getElem_cons_zero, List.getElem_cons_succ]
          refine G_all (rs := [17]) (by kernel_rfl) (by simp) ?_
          intro i hi; obtain rfl : i = 17 := by simpa using hi
          refine wpOp_run rfl (by rfl) ?_
          go_simp
          refine Calls.mono (refOf _ _ b f.path (HB.out.ext (x7.trans hHeld)) lB) ?_
          rintro e w11 ⟨vB, rfl, hMB, x11⟩
          rw [ofF_chk f.path HCB.out] at hMB
          have own10 := ownsRow_ext own10 x11
          have hHeld := hHeld.trans x11
          first | refine ⟨fun _ => hHeld, ?_⟩ | refine ⟨hHeld, ?_⟩
          try simp only [Act.put, List.setIfInBounds_toArray, List.set_cons_zero, List.set_cons_succ, List.getElem_toArray, List.getElem_cons_zero, List.getElem_cons_succ]
          refine G_all (rs := [18]) (by kernel_rfl) (by simp) ?_
          intro i hi; obtain rfl : i = 18 := by simpa using hi
          refine wpOp_run rfl (by rfl) ?_
          go_simp
          refine Calls.mono (HD2.out _ vB v10 hMB (isY_own own10)) ?_
          rintro e w12 ⟨v12, n12, rfl, own12, hn12, -, x12⟩
          subst hn12
          rw [← HBY.out] at own12
          have hHeld := hHeld.trans x12
          first | refine ⟨fun _ => hHeld, ?_⟩ | refine ⟨hHeld, ?_⟩
          try simp only [Act.put, List.setIfInBounds_toArray, List.set_cons_zero, List.set_cons_succ, List.getElem_toArray, List.getElem_cons_zero, List.getElem_cons_succ]
          refine G_all (rs := [19]) (by kernel_rfl) (by simp) ?_
          intro i hi; obtain rfl : i = 19 := by simpa using hi
          refine wpOp_run rfl (by rfl) ?_
          go_simp
          refine Calls.mono (HD3.out _ v12 (isY_own own12)) ?_
          rintro e w13 ⟨vR, rfl, ownR, x13⟩
          rw [HTH.out] at ownR
          have hHeld := hHeld.trans x13
          first | refine ⟨fun _ => hHeld, ?_⟩ | refine ⟨hHeld, ?_⟩
          try simp only [Act.put, List.setIfInBounds_toArray, List.set_cons_zero, List.set_cons_succ, List.getElem_toArray, List.getElem_cons_zero, List.getElem_cons_succ]
          refine G_all (rs := [20]) (by kernel_rfl) (by simp) ?_
          intro i hi; obtain rfl : i = 20 := by simpa using hi
          refine wpOp_run rfl (by rfl) ?_
          refine wp_appO tyE (.tmp 40) (.tmp 59) rfl w6.heap.size _ O.length _ (ownsRow_ext own hHeld) (by rfl) _ (thenE a b f).length ((thenE a b f).flatMap edC) (IsSl.of_owns ownR) (by rfl) (edC_all _) (by have := HTL.out; have := HLEN.out; have := H16.out; omega) (by have := HTL.out; have := HLEN.out; have := H16.out; omega) (Nat.le_trans x7.size hHeld.size) ?_
          intro v14 w14 own14 gr14
          have X14 := own_base (ownsRow_ext own hHeld) gr14 (x7.trans hHeld) (Nat.le_refl _)
          try refine ⟨fun e => absurd e (by decide), ?_⟩
          refine G_free _ _ _ _ (by kernel_rfl) ?_
          try simp only [Act.put, List.setIfInBounds_toArray, List.set_cons_zero, List.set_cons_succ, List.getElem_toArray, List.getElem_cons_zero, List.getElem_cons_succ]
          refine wpAny_take (i := 21) (v := ?vth21) rfl (by kernel_rfl) (by kernel_rfl) (by kernel_rfl) (fun _ _ _ h => h) (Or.inl ⟨by rfl, ?hyth21⟩) ?_
          case hyth21 => (intro w ; go_simp; try with_reducible rfl)
          simp only [Act.put, List.setIfInBounds_toArray, List.set_cons_zero, List.set_cons_succ, List.getElem_toArray, List.getElem_cons_zero, List.getElem_cons_succ]
          refine wpAny_done (by kernel_rfl) ?_ _
          refine NoPanic.normal ?_
          go_wp2_with fail
          go_roundg (fs.length - (k + 1))
          case measure => omega
          case rel =>
            refine ⟨k + 1, by omega, by omega, by go_num, ?_, ?_, X14⟩
            · rw [HTK.out, List.length_append]; have := HTL.out; have := HLEN.out; omega
            · rw [HTK.out, List.length_append, List.flatMap_append]
              exact own14
        · obtain rfl : k = fs.length := by omega
          rw [List.take_length] at own
          clear hgk GF
          go_wp2_with fail
          go_ret2
          exact ⟨_, rfl, ownsRow_base own (by omega), X6.trans xr⟩
    · have hz2 : (D.2 != 0) = true := by simpa using hz
      have hRe : R = ([], D.2) := by rw [HR.out, hD, if_pos hz]
      subst hRe
      clear hD
      go_wp2_with fail
      go_ret2
      exact th_err (X5.alloc _) _
  · have hz2 : (D.2 != 0) = true := by simpa using hz
    have hRe : R = ([], D.2) := by rw [HR.out, hD, if_pos hz]
    subst hRe
    clear hD
    go_wp2_with fail
    go_ret2
    exact th_err (X3.alloc _) _
end Go.Proofs.YtgcbkhmaabmdjaaDoor

namespace Go.Proofs.YtgcbkhmaabmdjaaDoor
open Go.RowKit
set_option linter.unusedVariables false
set_option linter.unusedSimpArgs false

theorem isE_nil (w : World) : IsE w (.slice none 0 0) [] := ⟨IsSl.of_owns (base := 0) (World.ownsRow_nil w 0 40 4), fun e he => by cases he⟩
theorem thenR_all {fs : List Fl} {a b : List Ed} (hf : ∀ f ∈ fs, flOk f) : ∀ e ∈ (thenR fs a b).1, edOk e := by
  by_cases h : (thenR fs a b).2 = 0
  · obtain ⟨h1, h2, h3⟩ := thenR_ok h
    rw [h3]
    exact thenL_edOk hf (edit_together h1 h2).1
  · rw [thenR_err h]
    intro e he
    cases he
set_option maxHeartbeats 8000000 in
set_option maxRecDepth 100000 in
theorem walkEditThen (w : World) (v : Value) (fs : List Fl) (h : ArgRepo w v fs) (va : Value) (la : List Ed) (hA : IsE w va la) (vb : Value) (lb : List Ed) (hB : IsE w vb lb) :
    Calls Tryd.prog 5 #[v, va, vb] w fun e w' => e = .returned (.bool true) ∧ Below w.heap.size w w' := by
  obtain ⟨u, rfl, hF⟩ := h
  obtain ⟨_, au, cu, rfl, _⟩ := hF.sl
  go_enter Tryd.func5, Tryd.ntmps5
  go_wp2_with fail
  refine Calls.mono (wakes _) ?_
  rintro e w1 ⟨rfl, x1⟩
  have X1 : Ext w w1 := ((Ext.refl w).alloc _).trans x1
  have b1 := x1.keeps (heap_alloc_new w (.cells #[.slice au fs.length cu] 24))
  generalize hR : w.heap.size = R at *
  have hfin : ∀ (W : World) (g : Nat) (c : Array Value), W.heap[g]? = some (.cells c 24 (0, 0)) → ∀ u, (W.setRow g #[u]).heap[g]? = some (.cells #[u] 24 (0, 0)) := fun W g c h u => setRow_heap _ _ _ _ _ _ h
  go_wp2_with ((with_reducible refine at_load 24 (.tmp 3) ?_); refine wpl_load (by rfl) 24 (.tmp 3) rfl R (by rfl) 24 #[.slice au fs.length cu] (0, 0) _ b1 Tryd.underlying24 rfl (info1 _) ?_)
  refine Calls.mono (lawShort w1 _ fs (hF.ext X1)) ?_
  rintro e w2 ⟨v1, rfl, own1, x2⟩
  have b2 := x2.keeps b1
  have b3 := hfin w2 R _ b2 v1
  have hS := shortF_ok fs
  generalize hSS : shortF fs = S at *
  obtain ⟨a1, c1, rfl⟩ : ∃ a1 c1, v1 = .slice a1 S.length c1 := by obtain ⟨_, a, c, rfl, _⟩ := IsSl.of_owns own1; exact ⟨a, c, rfl⟩
  have hone1 := slice_one a1 S.length c1
  have X2 := X1.trans x2
  have X3 : Ext w (w2.setRow R #[.slice a1 S.length c1]) := X2.grown grown_row1 (fun k hk => by cases hk; omega)
  have F3 : IsF (w2.setRow R #[.slice a1 S.length c1]) (.slice a1 S.length c1) S := owns_isF (own1.kept grown_row1 (.inr (own_neT own1 b2 (by decide)))) hS
  go_wp2_with first
    | ((with_reducible refine at_store 24 (.tmp 3) (.tmp 19) ?_); refine wpl_store (by rfl) 24 (.tmp 3) (.tmp 19) rfl R #[.slice a1 S.length c1] (by rfl) (by rfl) 24 _ b2 (info1 _) rfl hone1 ?_)
    | ((with_reducible refine at_load 24 (.tmp 3) ?_); refine wpl_load (by rfl) 24 (.tmp 3) rfl R (by rfl) 24 #[.slice a1 S.length c1] (0, 0) _ b3 Tryd.underlying24 rfl (info1 _) ?_)
  generalize w2.setRow R #[.slice a1 S.length c1] = w3 at *
  refine Calls.mono (lawShort w3 _ S F3) ?_
  rintro e w4 ⟨v2, rfl, own2, x4⟩
  rw [← hSS, short_twice, hSS] at own2
  obtain ⟨a2, c2, rfl⟩ : ∃ a2 c2, v2 = .slice a2 S.length c2 := by obtain ⟨_, a, c, rfl, _⟩ := IsSl.of_owns own2; exact ⟨a, c, rfl⟩
  have F4 := owns_isF own2 hS
  clear own1 own2 b1 b2 X1 X2 x1 x2
  have b4 := x4.keeps b3
  have b5 := blk_old (o := .cells #[.slice a2 S.length c2] 24) b4
  have t5 := blk_new (w := w4) (b := w4.heap.size) (o := .cells #[.slice a2 S.length c2] 24) rfl
  have x5 : Ext w4 (w4.alloc (.cells #[.slice a2 S.length c2] 24)) := (Ext.refl _).alloc _
  have F1 := (F3.ext x4).ext x5
  have F2 := F4.ext x5
  have X5 := (X3.trans x4).trans x5
  clear b3 b4 F3 F4 X3 x4 x5
  go_wp2_with fail
  generalize w4.alloc (.cells #[.slice a2 S.length c2] 24) = w5 at *
  generalize w4.heap.size = T at *
  refine Calls.mono (few' _ _ la (hA.ext X5)) ?_
  rintro e w6a ⟨vx, rfl, hx6, x6a⟩
  go_wp2_with fail
  refine Calls.mono (few' _ _ lb (hB.ext (X5.trans x6a))) ?_
  rintro e w6b ⟨vy, rfl, hy6, x6b⟩
  go_wp2_with fail
  refine Calls.mono (few' _ _ la (hA.ext ((X5.trans x6a).trans x6b))) ?_
  rintro e w6c ⟨vp, rfl, hp6, x6c⟩
  go_wp2_with fail
  refine Calls.mono (few' _ _ lb (hB.ext (((X5.trans x6a).trans x6b).trans x6c))) ?_
  rintro e w7 ⟨vq, rfl, hq7, x6d⟩
  have hLa : (fewL la).length ≤ 1000000 := by unfold fewL; rw [List.length_map, List.length_take]; omega
  have hLb : (fewL lb).length ≤ 1000000 := by unfold fewL; rw [List.length_map, List.length_take]; omega
  generalize fewL la = La at *
  generalize fewL lb = Lb at *
  have hx7 := hx6.ext ((x6b.trans x6c).trans x6d)
  have hy7 := hy6.ext (x6c.trans x6d)
  have hp7 := hp6.ext x6d
  have x67 := ((x6a.trans x6b).trans x6c).trans x6d
  have b7 := x67.keeps b5
  have t7 := x67.keeps t5
  have F1 := F1.ext x67
  have F2 := F2.ext x67
  have X7 := X5.trans x67
  clear hx6 hy6 hp6 x6a x6b x6c x6d x67 b5 t5 X5
  go_wp2_with ((with_reducible refine at_load 24 (.tmp 3) ?_); refine wpl_load (by rfl) 24 (.tmp 3) rfl R (by rfl) 24 #[.slice a1 S.length c1] (0, 0) _ b7 Tryd.underlying24 rfl (info1 _) ?_)
  refine Calls.mono (editThen w7 _ S vx vy La Lb F1 hx7.isE hy7.isE hLa hLb) ?_
  rintro e w8 ⟨vc, rfl, ownC, x8⟩
  have hCk := @thenR_all S La Lb hS
  obtain ⟨R2, hR2⟩ : ∃ R2, thenR S La Lb = R2 := ⟨_, rfl⟩
  rw [hR2] at ownC hCk ⊢
  have HR2 := Lib.hid hR2
  clear hR2
  obtain ⟨C, ce⟩ := R2
  dsimp only at ownC hCk ⊢
  have EC : IsE w8 vc C := ⟨IsSl.of_owns ownC, hCk⟩
  clear ownC hCk
  go_wp2_with fail
  refine Calls.mono (whole w8 _ _ La La (hx7.ext x8) (hp7.ext x8).isE) ?_
  rintro e w9 ⟨rfl, x9⟩
  rw [decide_eq_true (rfl : La = La)]
  have X9 := x8.trans x9
  go_wp2_with fail
  refine Calls.mono (whole w9 _ _ Lb Lb (hy7.ext X9) (hq7.ext X9).isE) ?_
  rintro e w10 ⟨rfl, x10⟩
  rw [decide_eq_true (rfl : Lb = Lb)]
  have X10 := X9.trans x10
  have b10 := X10.keeps b7
  have t10 := X10.keeps t7
  have EC := EC.ext (x9.trans x10)
  go_wp2_with first
    | ((with_reducible refine at_load 24 (.tmp 3) ?_); refine wpl_load (by rfl) 24 (.tmp 3) rfl R (by rfl) 24 #[.slice a1 S.length c1] (0, 0) _ b10 Tryd.underlying24 rfl (info1 _) ?_)
    | ((with_reducible refine at_load 24 (.tmp 7) ?_); refine wpl_load (by rfl) 24 (.tmp 7) rfl T (by rfl) 24 #[.slice a2 S.length c2] (0, 0) _ t10 Tryd.underlying24 rfl (info1 _) ?_)
  refine Calls.mono (refSame07 w10 _ _ S S (F1.ext X10) (F2.ext X10)) ?_
  rintro e w11 ⟨rfl, x11⟩
  rw [decide_eq_true (rfl : S = S)]
  have X11 := X10.trans x11
  have EC := EC.ext x11
  clear x8 x9 X9 x10 X10 b10 t10 x11
  go_wp2_with fail
  have hend : ∀ W, Ext w7 W → Below w.heap.size w W := fun W k => X7.trans k
  refine Calls.mono (refRight w11 _ La (hp7.ext X11).isE) ?_
  rintro e w12 ⟨rfl, x12⟩
  have X12 := X11.trans x12
  have EC := EC.ext x12
  clear X11 x12
  cases hca : chk La with
  | false =>
    have hRe : (C, ce) = (([] : List Ed), (280 : Int)) := by rw [← HR2.out]; unfold thenR; rw [hca]; rfl
    simp only [Prod.mk.injEq] at hRe
    obtain ⟨rfl, rfl⟩ := hRe
    go_wp2_with fail
    refine Calls.mono (refSameE w12 _ _ [] [] EC (isE_nil _)) ?_
    rintro e w13 ⟨rfl, x13⟩
    rw [decide_eq_true rfl]
    go_wp2_with fail
    go_ret
    exact ⟨rfl, hend _ (X12.trans (toExt x13))⟩
  | true =>
    have HCA := Lib.hid hca
    clear hca
    go_wp2_with fail
    refine Calls.mono (refRight w12 _ Lb (hq7.ext X12).isE) ?_
    rintro e w13 ⟨rfl, x13⟩
    have X13 := X12.trans x13
    have EC := EC.ext x13
    clear X12 x13
    cases hcb : chk Lb with
    | false =>
      have hRe : (C, ce) = (([] : List Ed), (280 : Int)) := by rw [← HR2.out]; unfold thenR; rw [HCA.out, hcb]; rfl
      simp only [Prod.mk.injEq] at hRe
      obtain ⟨rfl, rfl⟩ := hRe
      go_wp2_with fail
      refine Calls.mono (refSameE w13 _ _ [] [] EC (isE_nil _)) ?_
      rintro e w14 ⟨rfl, x14⟩
      rw [decide_eq_true rfl]
      go_wp2_with fail
      go_ret
      exact ⟨rfl, hend _ (X13.trans (toExt x14))⟩
    | true =>
      have HCB := Lib.hid hcb
      clear hcb
      have t13 := X13.keeps t7
      go_wp2_with ((with_reducible refine at_load 24 (.tmp 7) ?_); refine wpl_load (by rfl) 24 (.tmp 7) rfl T (by rfl) 24 #[.slice a2 S.length c2] (0, 0) _ t13 Tryd.underlying24 rfl (info1 _) ?_)
      refine Calls.mono (refRight07 w13 _ S (F2.ext X13)) ?_
      rintro e w14 ⟨rfl, x14⟩
      have X14 := X13.trans x14
      have EC := EC.ext x14
      clear X13 x14 t13
      cases hr : repoB S with
      | false =>
        have hRe : (C, ce) = (([] : List Ed), (170 : Int)) := by
          rw [← HR2.out]
          have : applyL S La = ([], 170) := by unfold applyL; rw [HCA.out, hr]; rfl
          unfold thenR
          rw [HCA.out, HCB.out, this]
          rfl
        simp only [Prod.mk.injEq] at hRe
        obtain ⟨rfl, rfl⟩ := hRe
        go_wp2_with fail
        refine Calls.mono (refSameE w14 _ _ [] [] EC (isE_nil _)) ?_
        rintro e w15 ⟨rfl, x15⟩
        rw [decide_eq_true rfl]
        go_wp2_with fail
        go_ret
        exact ⟨rfl, hend _ (X14.trans (toExt x15))⟩
      | true =>
        have HRS := Lib.hid hr
        clear hr
        have t14 := X14.keeps t7
        go_wp2_with ((with_reducible refine at_load 24 (.tmp 7) ?_); refine wpl_load (by rfl) 24 (.tmp 7) rfl T (by rfl) 24 #[.slice a2 S.length c2] (0, 0) _ t14 Tryd.underlying24 rfl (info1 _) ?_)
        refine Calls.mono (refThen18 w14 _ S vp vq La Lb (F2.ext X14) (hp7.ext X14).isE (hq7.ext X14).isE hLa hLb HCA.out HCB.out HRS.out) ?_
        rintro e w15 ⟨vd, rfl, ownD, x15⟩
        have hCk := @thenR_all S La Lb hS
        rw [HR2.out] at ownD hCk ⊢
        dsimp only at ownD hCk ⊢
        have ED : IsE w15 vd C := ⟨IsSl.of_owns ownD, hCk⟩
        have X15 := X14.trans x15
        have EC := EC.ext x15
        clear ownD hCk
        go_wp2_with fail
        refine Calls.mono (refSameE w15 _ _ C C EC ED) ?_
        rintro e w16 ⟨rfl, x16⟩
        rw [decide_eq_true (rfl : C = C)]
        go_wp2_with fail
        go_ret
        exact ⟨rfl, hend _ (X15.trans (toExt x16))⟩
end Go.Proofs.YtgcbkhmaabmdjaaDoor
