/- The reference of merging: Paths. -/
import Derived.Test.YtpcpcjejdngllaaDoorMgR
namespace Go.Proofs.YtpcpcjejdngllaaDoor
open Go.RowKit
set_option linter.unusedVariables false
set_option linter.unusedSimpArgs false

theorem allP_cons (f : List Fl) (fss : List (List Fl)) : allP (f :: fss) = f.map Fl.path ++ allP fss := by unfold allP; rw [List.flatMap_cons]
theorem allP_snoc (fss : List (List Fl)) (f : List Fl) : allP (fss ++ [f]) = allP fss ++ f.map Fl.path := by unfold allP; simp
theorem allP_take (l : List (Value × List Fl)) (k : Nat) (hk : k < l.length) : allP ((l.take (k + 1)).map Prod.snd) = allP ((l.take k).map Prod.snd) ++ (l[k].2).map Fl.path := by
  rw [List.take_succ_eq_append_getElem hk, List.map_append, List.map_cons, List.map_nil, allP_snoc]
theorem allP_le (l : List (Value × List Fl)) (k : Nat) : (allP ((l.take k).map Prod.snd)).length ≤ (allP (l.map Prod.snd)).length := by
  have : allP (l.map Prod.snd) = allP ((l.take k).map Prod.snd) ++ allP ((l.drop k).map Prod.snd) := by
    unfold allP
    rw [← List.flatMap_append, ← List.map_append, List.take_append_drop]
  rw [this, List.length_append]
  omega
set_option maxHeartbeats 8000000 in
set_option maxRecDepth 100000 in
theorem refPaths (w : World) (v : Value) (l : List (Value × List Fl)) (h : IsRs w v l) (hl : (allP (l.map Prod.snd)).length ≤ 10000) :
    Calls Tryd.prog 23 #[v] w fun e w' => ∃ v', e = .returned v' ∧ IsStr w' v' (pathsL (l.map Prod.snd)) ∧ Ext w w' := by
  obtain ⟨R, hR⟩ : ∃ R, pathsL (l.map Prod.snd) = R := ⟨_, rfl⟩
  rw [hR]
  have HR := Lib.hid hR
  clear hR
  obtain ⟨hlen, ao, cap, rfl, b1, m1, z1, g1⟩ := h.sl
  have G1 := Lib.hid g1
  have HO := Lib.hid h.ok
  have HL := Lib.hid hl
  clear g1 z1 hlen h hl
  go_enter Tryd.func23, Tryd.ntmps23
  go_wp2_with fail
  go_loopg [3, 10] l.length (fun g s3 s10 wr => ∃ k : Nat, k ≤ l.length ∧ l.length - k ≤ g ∧ s10 = .int .i64 (k : Int) ∧ IsStr wr s3 ((allP ((l.take k).map Prod.snd)).foldl putP []) ∧ Ext w wr)
  case atStart => exact ⟨0, by omega, by omega, rfl, IsSl.nil _ _, Ext.refl _⟩
  case round =>
    obtain ⟨k, hk, hg, rfl, hs, xr⟩ := hrel
    by_cases hlt : k < l.length
    · obtain ⟨b, off, rfl, e0⟩ := G1.out k (by simpa using hlt)
      have e0 : w.cell? ⟨b, off + k, none⟩ = some l[k].1 := by rw [e0, List.getElem?_map, List.getElem?_eq_getElem hlt]; rfl
      have e0 := xr.cell e0
      have hF := (HO.out l[k] (List.getElem_mem hlt)).ext xr
      have HT := Lib.hid (allP_take l k hlt)
      have hle := Nat.le_trans (allP_le l (k + 1)) HL.out
      rw [HT.out] at hle
      generalize l[k] = x at *
      obtain ⟨u, fs⟩ := x
      dsimp only at hF e0 HT hle
      obtain ⟨au, cu, rfl, hcu, hcu2, _, gu⟩ := hF.opened
      have GU := Lib.hid gu
      have bN := heap_alloc_new wr (.cells #[.slice au fs.length cu] 24)
      have y := (Ext.refl wr).alloc (.cells #[.slice au fs.length cu] 24)
      have cN : (wr.alloc (.cells #[.slice au fs.length cu] 24)).cell? ⟨wr.heap.size, 0, none⟩ = some (.slice au fs.length cu) := by rw [block_cell bN]; rfl
      have hs := hs.ext y
      have xa := xr.trans y
      generalize allP ((l.take k).map Prod.snd) = P0 at *
      have hP0 : (P0.foldl putP []).length ≤ P0.length := by have := foldP_len P0 []; simpa using this
      clear gu bN hF
      rw [List.length_append, List.length_map] at hle
      go_wp2_with fail
      generalize wr.alloc (.cells #[.slice au fs.length cu] 24) = wa at *
      go_loopg [3, 17] fs.length (fun g s3 s17 wi => ∃ j : Nat, j ≤ fs.length ∧ fs.length - j ≤ g ∧ s17 = .int .i64 (j : Int) ∧ IsStr wi s3 ((P0 ++ (fs.take j).map Fl.path).foldl putP []) ∧ Ext wa wi)
      case atStart => exact ⟨0, by omega, by omega, rfl, by simpa using hs, Ext.refl _⟩
      case round =>
        clear hs
        obtain ⟨j, hj, hgj, rfl, hs, xi⟩ := hrel
        by_cases hjt : j < fs.length
        · obtain ⟨pb, o, rfl, e0, e1⟩ := GU.out j hjt
          have e0 := (y.trans xi).cell e0
          have e1 := (y.trans xi).cell e1
          have hST := Lib.hid (show (P0 ++ (fs.take (j + 1)).map Fl.path).foldl putP [] = putP ((P0 ++ (fs.take j).map Fl.path).foldl putP []) fs[j].path by
            rw [List.take_succ_eq_append_getElem hjt, List.map_append, ← List.append_assoc, List.foldl_append]
            rfl)
          have hln : ((P0 ++ (fs.take j).map Fl.path).foldl putP []).length ≤ 100000 := by
            have h := foldP_len (P0 ++ (fs.take j).map Fl.path) []
            rw [List.length_append, List.length_map, List.length_take] at h
            simp only [List.length_nil] at h
            omega
          generalize (P0 ++ (fs.take j).map Fl.path).foldl putP [] = Z at *
          generalize fs[j] = x at *
          have bM := heap_alloc_new wr (.cells #[.string x.path, .string x.text] 46)
          have y2 := (Ext.refl wr).alloc (.cells #[.string x.path, .string x.text] 46)
          have m0 : (wr.alloc (.cells #[.string x.path, .string x.text] 46)).cell? ⟨wr.heap.size, 0, none⟩ = some (.string x.path) := by rw [block_cell bM]; rfl
          have hs2 := hs.ext y2
          have hsx := hs2
          obtain ⟨az, cz, rfl, -⟩ := hsx.opened
          clear bM
          go_wp2_with fail
          refine Calls.mono (refPut _ _ Z x.path hs2 hln) ?_
          rintro e w7 ⟨v7, rfl, h7, x7⟩
          go_wp2_with fail
          go_roundg (fs.length - (j + 1))
          case measure => omega
          case rel => exact ⟨j + 1, by omega, by omega, by go_num, by rw [hST.out]; exact h7, (xi.trans y2).trans x7⟩
        · obtain rfl : j = fs.length := by omega
          rw [List.take_of_length_le (Nat.le_refl _), ← HT.out] at hs
          go_wp2_with fail
          go_roundg (l.length - (k + 1))
          case measure => omega
          case rel => exact ⟨k + 1, by omega, by omega, by go_num, hs, xa.trans xi⟩
    · obtain rfl : k = l.length := by omega
      rw [List.take_of_length_le (Nat.le_refl _)] at hs
      go_wp2_with fail
      go_ret
      exact ⟨_, rfl, by rw [← HR.out]; exact hs, xr⟩
end Go.Proofs.YtpcpcjejdngllaaDoor
