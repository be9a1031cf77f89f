/- short: a repository in memory of its own. -/
import Derived.Test.YtgcbkhmaabmdjaaDoorFlK
import Derived.Test.YtgcbkhmaabmdjaaDoorApp
namespace Go.Proofs.YtgcbkhmaabmdjaaDoor
open Go.RowKit
set_option linter.unusedVariables false
set_option linter.unusedSimpArgs false

def cutF (f : Fl) : Fl := ⟨f.path.extract 0 (min f.path.size 100), f.text.extract 0 (min f.text.size 4097)⟩
def shortF (fs : List Fl) : List Fl := (fs.take 18).map cutF
theorem cutF_ok (f : Fl) : flOk (cutF f) := by
  unfold flOk cutF
  simp only [ByteArray.size_extract]
  omega
theorem shortF_ok (fs : List Fl) : ∀ f ∈ shortF fs, flOk f := by
  intro f hf
  obtain ⟨g, _, rfl⟩ := List.mem_map.1 hf
  exact cutF_ok g
theorem results_cell1 {P : Program} {fn : Func} {p : Tmp} {ty : TypeId} (h : fn.results = #[.cell p ty]) (tmps : Array Value) (w : World) (g : Nat) (t : TypeId) (cs : Array Value) (fr : Nat × Nat) (d : TypeDesc)
    (hp : tmps.getD p undef = .pointer (some ⟨g, 0, none⟩)) (hg : w.heap[g]? = some (.cells cs t fr))
    (hu : P.underlying ty = some d) (hd : (match d with | .struct _ | .array _ _ => true | _ => false) = true) (hi : (P.info? ty).map (·.size) = some cs.size) :
    (results fn tmps).run P w = .ok (.agg cs) w := by
  have hp' : tmps[p]?.getD undef = .pointer (some ⟨g, 0, none⟩) := by simpa using hp
  simp [results, h, hp', asAddr, run_loadVar_row w g t ty cs fr d hg hu hd hi]

set_option maxHeartbeats 4000000 in
set_option maxRecDepth 100000 in
theorem lawShort (w : World) (v : Value) (fs : List Fl) (hF : IsF w v fs) :
    Calls Tryd.prog 8 #[.agg #[v]] w fun e w' => ∃ v', e = .returned (.agg #[v']) ∧ w'.ownsRow w.heap.size 42 2 v' (shortF fs).length ((shortF fs).flatMap flC) ∧ Ext w w' := by
  have b0 := blk_old (o := .cells #[.slice none 0 0] 24) (heap_alloc_new w (.cells #[v] 24))
  have bR := blk_new (w := w.alloc (.cells #[v] 24)) (b := w.heap.size + 1) (o := .cells #[.slice none 0 0] 24) (by simp)
  have X0 : Ext w ((w.alloc (.cells #[v] 24)).alloc (.cells #[.slice none 0 0] 24)) := ((Ext.refl w).alloc _).alloc _
  obtain ⟨ao, cap, rfl, _, _, _, g1⟩ := (hF.ext X0).opened
  have G1 := Lib.hid g1
  have HO := Lib.hid hF.ok
  have cb : ((w.alloc (.cells #[.slice ao fs.length cap] 24)).alloc (.cells #[.slice none 0 0] 24)).cell? ⟨w.heap.size, 0, none⟩ = some (.slice ao fs.length cap) := by rw [block_cell b0]; rfl
  clear hF g1 b0
  go_enter Tryd.func8, Tryd.ntmps8
  go_wp2_with fail
  generalize (w.alloc (.cells #[.slice ao fs.length cap] 24)).alloc (.cells #[.slice none 0 0] 24) = w0 at *
  generalize hG : w.heap.size = G at *
  have hfin : ∀ (W : World) (c : Array Value), W.heap[G + 1]? = some (.cells c 24 (0, 0)) → ∀ u, (W.setRow (G + 1) #[u]).heap[G + 1]? = some (.cells #[u] 24 (0, 0)) := fun W c h u => setRow_heap _ _ _ _ _ _ h
  go_loopg [3, 9] fs.length (fun g s3 s9 wr => ∃ k : Nat, k ≤ fs.length ∧ k ≤ 18 ∧ fs.length - k ≤ g ∧ s9 = .int .i64 (k : Int) ∧ wr.ownsRow w0.heap.size 42 2 s3 k (((fs.take k).map cutF).flatMap flC) ∧ Ext w0 wr)
  case atStart => exact ⟨0, by omega, by omega, by omega, rfl, World.ownsRow_nil _ _ _ _, Ext.refl _⟩
  case round =>
    obtain ⟨k, hk, hk18, hg, rfl, own, xr⟩ := hrel
    have hw0 : w0.heap.size ≤ wr.heap.size := xr.size
    by_cases hlt : k < fs.length
    · obtain ⟨pb, o, rfl, e0, e1⟩ := G1.out k hlt
      have e0 := xr.cell e0
      have e1 := xr.cell e1
      by_cases h18 : k = 18
      · subst h18
        have hlen : (shortF fs).length = 18 := by unfold shortF; rw [List.length_map, List.length_take]; omega
        have hbr : ((18 : Nat) : Int) = 18 := rfl
        generalize fs[18] = x at *
        have bR2 := (xr.alloc (.cells #[.string x.path, .string x.text] 42)).keeps bR
        obtain ⟨_, a4, c4, rfl, _⟩ := IsSl.of_owns own
        have hone := slice_one a4 18 c4
        go_wp2_with ((with_reducible refine at_store 24 (.tmp 2) (.tmp 38) ?_); refine wpl_store (by rfl) 24 (.tmp 2) (.tmp 38) rfl (G + 1) #[.slice a4 18 c4] (by rfl) (by rfl) 24 _ bR2 (info1 _) rfl hone ?_)
        refine bodyPost_ret (results_cell1 rfl _ _ (G + 1) _ _ _ _ (by rfl) (hfin _ _ bR2 _) Tryd.underlying24 rfl (info1 _)) rfl ?_
        have own := own.alloc (.cells #[.string x.path, .string x.text] 42)
        refine ⟨_, by rfl, ?_, (X0.trans (xr.alloc _)).grown grown_row1 (fun k hk => by cases hk; rw [hG]; omega)⟩
        rw [hlen]
        exact ownsRow_base (own.kept grown_row1 (.inr (own_neT own bR2 (by decide)))) (by have := X0.size; omega)
      · have h18' : ((k : Int) == 18) = false := by rw [beq_eq_false_iff_ne]; omega
        have hstep : (fs.take (k + 1)).map cutF = (fs.take k).map cutF ++ [cutF fs[k]] := by
          rw [List.take_succ_eq_append_getElem hlt, List.map_append]; rfl
        have hox := HO.out _ (List.getElem_mem hlt)
        obtain ⟨ho1, ho2⟩ := hox
        generalize fs[k] = x at *
        have HS := Lib.hid hstep
        clear hstep
        have bF := heap_alloc_new wr (.cells #[.string x.path, .string x.text] 42)
        have xrA := xr.alloc (.cells #[.string x.path, .string x.text] 42)
        have k0 := block_cell bF 0
        have k1 := block_cell bF 1
        have f0 := block_free bF 0
        have f1 := block_free bF 1
        go_wp2_with fail
        go_region
        have hp : (min (x.path.size : Int) 100).toNat = min x.path.size 100 := by omega
        have ht : (min (x.text.size : Int) 4097).toNat = min x.text.size 4097 := by omega
        rw [hp, ht]
        have hcx : flC (cutF x) = [.string (x.path.extract 0 (min x.path.size 100)), .string (x.text.extract 0 (min x.text.size 4097))] := rfl
        generalize x.path.extract 0 (min x.path.size 100) = q1 at *
        generalize x.text.extract 0 (min x.text.size 4097) = q2 at *
        have hone : ∀ u ∈ [Value.string q1, Value.string q2], u.oneCell' = true := by
          intro u hu
          simp only [List.mem_cons, List.not_mem_nil, or_false] at hu
          rcases hu with rfl | rfl <;> rfl
        have hX6 : Ext wr (((wr.alloc (.cells #[.string q1, .string q2] 42)).drew).alloc (.cells #[.string q1, .string q2] 42)) := (((Ext.refl wr).alloc _).drew).alloc _
        have own6 := owns_ext own hX6
        have xr6 := xr.trans hX6
        have hw06 := xr6.size
        have hsz : ((wr.alloc (.cells #[.string q1, .string q2] 42)).drew).heap.size = wr.heap.size + 1 := by simp
        have HCX := Lib.hid hcx
        clear hcx bF k0 k1 f0 f1 own xrA hp ht e0 e1
        go_wp2_with (at_builtin; refine wp_app (w := ((wr.alloc (.cells #[.string q1, .string q2] 42)).drew).alloc (.cells #[.string q1, .string q2] 42)) tyFl rfl (.tmp 32) (.tmp 34) rfl w0.heap.size _ k _ own6 (by rfl) _ 1 [.string q1, .string q2] (sl_one_new (w := (wr.alloc (.cells #[.string q1, .string q2] 42)).drew) (n := 2) (e := 42) (Q := [.string q1, .string q2]) hsz rfl) (by rfl) hone (by omega) (by omega) hw06 ?_; intro v7 w7 own7 gr7)
        have xw7 := own_base own6 gr7 xr6 (Nat.le_refl _)
        go_roundg (fs.length - (k + 1))
        case measure => omega
        case rel => exact ⟨k + 1, by omega, by omega, by omega, by go_num, by rw [HS.out, List.flatMap_append]; simpa [HCX.out] using own7, xw7⟩
    · obtain rfl : k = fs.length := by omega
      have hlen : (shortF fs).length = fs.length := by unfold shortF; rw [List.length_map, List.length_take]; omega
      have hsh : shortF fs = (fs.take fs.length).map cutF := by unfold shortF; rw [List.take_of_length_le (by omega), List.take_of_length_le (by omega)]
      have bR2 := xr.keeps bR
      obtain ⟨_, a4, c4, rfl, _⟩ := IsSl.of_owns own
      have hone := slice_one a4 fs.length c4
      go_wp2_with ((with_reducible refine at_store 24 (.tmp 2) (.tmp 38) ?_); refine wpl_store (by rfl) 24 (.tmp 2) (.tmp 38) rfl (G + 1) #[.slice a4 fs.length c4] (by rfl) (by rfl) 24 _ bR2 (info1 _) rfl hone ?_)
      refine bodyPost_ret (results_cell1 rfl _ _ (G + 1) _ _ _ _ (by rfl) (hfin _ _ bR2 _) Tryd.underlying24 rfl (info1 _)) rfl ?_
      refine ⟨_, by rfl, ?_, (X0.trans xr).grown grown_row1 (fun k hk => by cases hk; rw [hG]; omega)⟩
      rw [hlen, hsh]
      exact ownsRow_base (own.kept grown_row1 (.inr (own_neT own bR2 (by decide)))) (by have := X0.size; omega)
end Go.Proofs.YtgcbkhmaabmdjaaDoor
