/- The walk of edit.Apply. -/
import Derived.Test.YtgcbkhmaabmdjaaDoorFlH
namespace Go.Proofs.YtgcbkhmaabmdjaaDoor
open Go.RowKit
set_option linter.unusedVariables false
set_option linter.unusedSimpArgs false

def ApEnd (D : List Fl × Int) (w : World) (e : Ending) (w' : World) : Prop := ∃ v', e = .returned (.tuple #[.agg #[v'], .int .i64 D.2]) ∧ w'.ownsRow w.heap.size 42 2 v' D.1.length (D.1.flatMap flC) ∧ Ext w w'
theorem info1 (v : Value) : (Tryd.prog.info? 24).map (·.size) = some (#[v] : Array Value).size := by show _ = some 1; kernel_rfl
theorem sl_one1 {w : World} {v : Value} {s n : Nat} {xs : List Value} (h : IsSl w v s n xs) : (#[v] : Array Value).all (·.oneCell') = true := by
  obtain ⟨_, ao, cap, rfl, _⟩ := h
  simp [Value.oneCell']
theorem nil_one : (#[Value.slice none 0 0] : Array Value).all (·.oneCell') = true := by simp [Value.oneCell']
theorem slice_one (a : Option Addr) (n c : Nat) : (#[Value.slice a n c] : Array Value).all (·.oneCell') = true := by simp [Value.oneCell']
theorem results_cellT {P : Program} {fn : Func} {p q : Tmp} {ty : TypeId} (h : fn.results = #[.cell p ty, .tmp q]) (tmps : Array Value) (w : World) (g : Nat) (t : TypeId) (cs : Array Value) (fr : Nat × Nat) (d : TypeDesc)
    (hp : tmps.getD p undef = .pointer (some ⟨g, 0, none⟩)) (hg : w.heap[g]? = some (.cells cs t fr))
    (hu : P.underlying ty = some d) (hd : (match d with | .struct _ | .array _ _ => true | _ => false) = true) (hi : (P.info? ty).map (·.size) = some cs.size) :
    (results fn tmps).run P w = .ok (.tuple #[.agg cs, tmps.getD q undef]) w := by
  have hp' : tmps[p]?.getD undef = .pointer (some ⟨g, 0, none⟩) := by simpa using hp
  simp [results, h, hp', asAddr, run_loadVar_row w g t ty cs fr d hg hu hd hi]
theorem ap_err {w w' : World} (x : Ext w w') (E : Int) : ApEnd ([], E) w (.returned (.tuple #[.agg #[.slice none 0 0], .int .i64 E])) w' := ⟨_, rfl, World.ownsRow_nil _ _ _ _, x⟩
theorem grown_row1 {w : World} {g : Nat} {c : Array Value} : w.grownBy (w.setRow g c) (some g) :=
  ⟨rfl, rfl, rfl, by rw [setRow_size]; exact Nat.le_refl _, fun k hk hn => setRow_other w g k c (by simpa using hn)⟩

theorem flat_setF {t : ByteArray} : ∀ (L : List Fl) (k : Nat) (hk : k < L.length), (L.flatMap flC).set (k * 2 + 1) (.string t) = (L.set k ⟨(L[k]).path, t⟩).flatMap flC := by
  intro L
  induction L with
  | nil => intro k hk; simp at hk
  | cons x L ih =>
    intro k hk
    cases k with
    | zero => rfl
    | succ k =>
      have := ih k (by simpa using hk)
      simp only [List.getElem_cons_succ, List.set_cons_succ, List.flatMap_cons]
      rw [← this, show (k + 1) * 2 + 1 = (k * 2 + 1) + 1 + 1 from by omega]
      rfl
theorem text_le : ∀ {fs : List Fl} {x : Fl}, x ∈ fs → x.text.size ≤ sumT fs
  | y :: fs, x, h => by
    have e : sumT (y :: fs) = y.text.size + sumT fs := by simp [sumT]
    rcases List.mem_cons.1 h with rfl | h
    · omega
    · have := text_le h
      omega
theorem owns_ext {w w' : World} {base : Nat} {e : TypeId} {size : Nat} {v : Value} {n : Nat} {xs : List Value} (h : w.ownsRow base e size v n xs) (x : Ext w w') : w'.ownsRow base e size v n xs := by
  refine ⟨h.1, ?_⟩
  rcases h.2 with h2 | ⟨g, cap, cur, hv, hb, hg, h3⟩
  · exact .inl h2
  · exact .inr ⟨g, cap, cur, hv, hb, x.keeps hg, h3⟩
theorem repo_sum {fs : List Fl} (h : repoB fs = true) : fs.length ≤ 16 ∧ sumT fs ≤ 16384 := by
  unfold repoB at h
  simp only [Bool.and_eq_true, decide_eq_true_eq] at h
  exact ⟨h.1, h.2.2⟩

set_option maxHeartbeats 8000000 in
set_option maxRecDepth 100000 in
theorem editApply (w : World) (v : Value) (fs : List Fl) (vl : Value) (l : List Ed) (hF : IsF w v fs) (hE : IsE w vl l) (hl : l.length ≤ 1000000) :
    Calls Tryd.prog 10 #[.agg #[v], vl] w (ApEnd (applyL fs l) w) := by
  obtain ⟨D, hD⟩ : ∃ D, applyL fs l = D := ⟨_, rfl⟩
  rw [hD]
  unfold applyL at hD
  have HD := Lib.hid hD
  clear hD
  have b0 := blk_old (o := .cells #[.slice none 0 0] 24) (heap_alloc_new w (.cells #[v] 24))
  have bR := blk_new (w := w.alloc (.cells #[v] 24)) (b := w.heap.size + 1) (o := .cells #[.slice none 0 0] 24) (by simp)
  have X0 : Ext w ((w.alloc (.cells #[v] 24)).alloc (.cells #[.slice none 0 0] 24)) := ((Ext.refl w).alloc _).alloc _
  have HF := Lib.hid (hF.ext X0)
  have HE := Lib.hid (hE.ext X0)
  obtain ⟨ao, cap, rfl, _, _, _, _⟩ := hF.opened
  obtain ⟨ae, ce, rfl, be1, me1, ze1, ge1⟩ := (hE.ext X0).opened
  have GE := Lib.hid ge1
  clear hF hE ge1 ze1
  go_enter Tryd.func10, Tryd.ntmps10
  go_wp2_with fail
  generalize (w.alloc (.cells #[.slice ao fs.length cap] 24)).alloc (.cells #[.slice none 0 0] 24) = w0 at *
  generalize hG : w.heap.size = G at *
  have hfin : ∀ (W : World) (c : Array Value), W.heap[G + 1]? = some (.cells c 24 (0, 0)) → ∀ u, (W.setRow (G + 1) #[u]).heap[G + 1]? = some (.cells #[u] 24 (0, 0)) := fun W c h u => setRow_heap _ _ _ _ _ _ h
  refine Calls.mono (editCheck _ _ l HE.out) ?_
  rintro e w1 ⟨rfl, x1⟩
  have bR1 := x1.keeps bR
  have b01 := x1.keeps b0
  cases hc : chk l with
  | false =>
    have hDe : D = ([], 280) := by rw [← HD.out, hc]; rfl
    subst hDe
    simp only [show errE false = 280 from rfl]
    go_wp2_with ((with_reducible refine at_store 24 (.tmp 4) (.tmp 20) ?_); refine wpl_store (by rfl) 24 (.tmp 4) (.tmp 20) rfl (G + 1) #[.slice none 0 0] (by rfl) (by rfl) 24 _ bR1 (info1 _) rfl nil_one ?_)
    refine bodyPost_ret (results_cellT rfl _ _ (G + 1) _ _ _ _ (by rfl) (hfin _ _ bR1 _) Tryd.underlying24 rfl (info1 _)) rfl ?_; exact ap_err ((X0.trans x1).grown grown_row1 (fun k hk => by cases hk; rw [hG]; omega)) 280
  | true =>
  simp only [show errE true = 0 from rfl]
  have HC := Lib.hid hc
  clear hc
  go_wp2_with ((with_reducible refine at_load 24 (.tmp 2) ?_); refine wpl_load (by rfl) 24 (.tmp 2) rfl G (by rfl) 24 #[.slice ao fs.length cap] (0, 0) _ b01 Tryd.underlying24 rfl (info1 _) ?_)
  refine Calls.mono (treeCheck _ _ fs (HF.out.ext x1)) ?_
  rintro e w2 ⟨rfl, x2⟩
  have X2 := x1.trans x2
  have bR2 := x2.keeps bR1
  have b02 := x2.keeps b01
  clear bR1 b01
  cases hr : repoB fs with
  | false =>
    have hDe : D = ([], 170) := by rw [← HD.out, HC.out, hr]; rfl
    subst hDe
    simp only [show errR false = 170 from rfl]
    go_wp2_with ((with_reducible refine at_store 24 (.tmp 4) (.tmp 26) ?_); refine wpl_store (by rfl) 24 (.tmp 4) (.tmp 26) rfl (G + 1) #[.slice none 0 0] (by rfl) (by rfl) 24 _ bR2 (info1 _) rfl nil_one ?_)
    refine bodyPost_ret (results_cellT rfl _ _ (G + 1) _ _ _ _ (by rfl) (hfin _ _ bR2 _) Tryd.underlying24 rfl (info1 _)) rfl ?_; exact ap_err ((X0.trans X2).grown grown_row1 (fun k hk => by cases hk; rw [hG]; omega)) 170
  | true =>
  simp only [show errR true = 0 from rfl]
  have HR := Lib.hid hr
  clear hr
  go_wp2_with fail
  go_loopg [30] l.length (fun g s30 wr => ∃ k : Nat, k ≤ l.length ∧ l.length - k ≤ g ∧ s30 = .int .i64 (k : Int) ∧ (∀ j (hj : j < l.length), j < k → hasB fs l[j].path = true) ∧ Ext w2 wr)
  case atStart => exact ⟨0, by omega, by omega, rfl, fun j _ hj => absurd hj (Nat.not_lt_zero _), Ext.refl _⟩
  case round =>
    obtain ⟨k, hk, hg, rfl, hall, xr⟩ := hrel
    have HALL := Lib.hid hall
    clear hall
    have bR3 := xr.keeps bR2
    have b03 := xr.keeps b02
    have cb3 : wr.cell? ⟨G, 0, none⟩ = some (.slice ao fs.length cap) := by rw [block_cell b03]; rfl
    by_cases hlt : k < l.length
    · obtain ⟨pb, o, rfl, e0, e1, e2, e3⟩ := GE.out k hlt
      have e0 := (X2.trans xr).cell e0
      have e1 := (X2.trans xr).cell e1
      have e2 := (X2.trans xr).cell e2
      have e3 := (X2.trans xr).cell e3
      generalize hx : l[k] = x at *
      have HX := Lib.hid hx
      clear hx
      have bE := heap_alloc_new wr (.cells #[.string x.path, .int .i64 x.at_, .int .i64 x.n, .string x.text] 40)
      have cE : (wr.alloc (.cells #[.string x.path, .int .i64 x.at_, .int .i64 x.n, .string x.text] 40)).cell? ⟨wr.heap.size, 0, none⟩ = some (.string x.path) := by rw [block_cell bE]; rfl
      have xa : Ext w2 (wr.alloc (.cells #[.string x.path, .int .i64 x.at_, .int .i64 x.n, .string x.text] 40)) := xr.alloc _
      have ywa : Ext wr (wr.alloc (.cells #[.string x.path, .int .i64 x.at_, .int .i64 x.n, .string x.text] 40)) := (Ext.refl wr).alloc _
      have cb4 := ywa.cell cb3
      clear bE ywa
      go_wp2_with fail
      refine Calls.mono (containsAp _ _ fs (HF.out.ext (X2.trans xa)) ⟨wr.heap.size, 0, none⟩ (fun W => W.cell? ⟨wr.heap.size, 0, none⟩ = some (.string x.path)) cE (fun A B hA hx => hx.cell hA) (fun f => f.path.toList == x.path.toList) (fun W f hW hf => apClosure W f wr.heap.size x.path hW)) ?_
      rintro ee w3 ⟨rfl, x3⟩
      have X3 := xa.trans x3
      cases hh : hasB fs x.path with
      | false =>
        have hne : (l.all fun e => hasB fs e.path) = false := by
          rw [List.all_eq_false]
          exact ⟨l[k], List.getElem_mem hlt, by rw [HX.out, hh]; decide⟩
        have hDe : D = ([], 4) := by rw [← HD.out, HC.out, HR.out, hne]; rfl
        subst hDe
        unfold hasB at hh
        rw [hh]
        have bR4 := X3.keeps bR2
        go_wp2_with ((with_reducible refine at_store 24 (.tmp 4) (.tmp 39) ?_); refine wpl_store (by rfl) 24 (.tmp 4) (.tmp 39) rfl (G + 1) #[.slice none 0 0] (by rfl) (by rfl) 24 _ bR4 (info1 _) rfl nil_one ?_)
        refine bodyPost_ret (results_cellT rfl _ _ (G + 1) _ _ _ _ (by rfl) (hfin _ _ bR4 _) Tryd.underlying24 rfl (info1 _)) rfl ?_; exact ap_err ((X0.trans (X2.trans X3)).grown grown_row1 (fun k hk => by cases hk; rw [hG]; omega)) 4
      | true =>
        have HH := Lib.hid hh
        unfold hasB at hh
        rw [hh]
        clear hh
        go_wp2_with fail
        go_roundg (l.length - (k + 1))
        case measure => omega
        case rel =>
          refine ⟨k + 1, by omega, by omega, by go_num, fun j hj hj1 => ?_, X3⟩
          by_cases e : j = k
          · subst e; rw [HX.out]; exact HH.out
          · exact HALL.out j hj (by omega)
    · obtain rfl : k = l.length := by omega
      have hall : (l.all fun e => hasB fs e.path) = true := by
        rw [List.all_eq_true]
        intro e he
        obtain ⟨j, hj, rfl⟩ := List.getElem_of_mem he
        exact HALL.out j hj hj
      have HA := Lib.hid hall
      clear hall HALL bR2 b02
      have h16 : fs.length ≤ 16 := by
        have := HR.out
        unfold repoB at this
        simp only [Bool.and_eq_true, decide_eq_true_eq] at this
        exact this.1
      have X3 := X2.trans xr
      go_wp2_with fail
      refine Calls.mono (cloneF _ _ fs (HF.out.ext X3) (by omega)) ?_
      rintro ee w4 ⟨v4, rfl, own4, x4⟩
      have bR4 := x4.keeps bR3
      have X4 := X3.trans x4
      have hs3 := X3.size
      have own4 := ownsRow_base own4 (show w0.heap.size ≤ _ from hs3)
      obtain ⟨_, a4, c4, rfl, _⟩ := IsSl.of_owns own4
      have bS := heap_alloc_new w4 (.cells #[.slice a4 fs.length c4] 24)
      have xs5 : Ext w4 (w4.alloc (.cells #[.slice a4 fs.length c4] 24)) := (Ext.refl w4).alloc _
      have bR5 := xs5.keeps bR4
      have own5 := own4.alloc (.cells #[.slice a4 fs.length c4] 24)
      have X5 := X4.trans xs5
      have hm0 : mixF l fs 0 = fs := by unfold mixF; simp
      have hS4 : w0.heap.size ≤ w4.heap.size := X4.size
      have hG1 : G + 1 < w4.heap.size := block_lt bR4
      have cS5 : (w4.alloc (.cells #[.slice a4 fs.length c4] 24)).cell? ⟨w4.heap.size, 0, none⟩ = some (.slice a4 fs.length c4) := by rw [block_cell bS]; rfl
      clear own4 bR3 b03 cb3 xs5 bR4
      go_wp2_with fail
      generalize w4.alloc (.cells #[.slice a4 fs.length c4] 24) = w5 at *
      generalize w4.heap.size = S at *
      rw [← hm0] at own5
      go_loopg [11, 12, 48] fs.length (fun g s11 s12 s48 wr => ∃ (k A : Nat) (Lg : Bool), k ≤ fs.length ∧ fs.length - k ≤ g ∧ s48 = .int .i64 (k : Int) ∧ s11 = .int .i64 (A : Int) ∧ s12 = .bool Lg ∧ A = sumT ((fs.map (updF l)).take k) ∧ Lg = longB ((fs.map (updF l)).take k) ∧ (∀ j (hj : j < fs.length), j < k → fitB l fs[j] = true) ∧ A ≤ k * 5000000000 ∧
        wr.ownsRow w0.heap.size 42 2 (.slice a4 fs.length c4) fs.length ((mixF l fs k).flatMap flC) ∧ wr.heap[S]? = some (.cells #[.slice a4 fs.length c4] 24 (0, 0)) ∧ wr.heap[G + 1]? = some (.cells #[.slice none 0 0] 24 (0, 0)) ∧ Ext w0 wr)
      case atStart => exact ⟨0, 0, false, by omega, by omega, rfl, rfl, rfl, rfl, rfl, fun j _ hj => absurd hj (Nat.not_lt_zero _), by omega, own5, bS, bR5, X5⟩
      case round =>
        clear own5 bS bR5 X5 cS5 hm0 X3 X4
        obtain ⟨k, A, Lg, hk, hgk, rfl, rfl, rfl, hA, hL, hfit, hAb, own, bS, bR, xw⟩ := hrel
        have HFIT := Lib.hid hfit
        have HAA := Lib.hid hA
        have HLL := Lib.hid hL
        clear hfit hA hL
        have cS := block_cell bS
        have cS : wr.cell? ⟨S, 0, none⟩ = some (.slice a4 fs.length c4) := by rw [cS]; rfl
        by_cases hlt : k < fs.length
        · rcases own.2 with ⟨_, h0⟩ | ⟨gb, cap', cur, hv, hge, hcur, h1, h2, h3, h4⟩
          · omega
          simp only [Value.slice.injEq] at hv
          obtain ⟨rfl, _, rfl⟩ := hv
          have hm : (mixF l fs k).length = fs.length := mix_len l fs k hk
          have hmk : (mixF l fs k)[k]'(by omega) = fs[k] := by
            have := mix_get l fs k hlt
            rw [List.getElem?_eq_getElem (by omega)] at this
            exact Option.some.inj this
          have fg := flat_get flC 2 (mixF l fs k) (flC_len _) k (by omega)
          rw [hmk] at fg
          have e0 : wr.cell? ⟨gb, k * 2, none⟩ = some (.string fs[k].path) := by rw [own.cellAt (k * 2) (by omega)]; exact fg 0 (by omega)
          have e1 : wr.cell? ⟨gb, k * 2 + 1, none⟩ = some (.string fs[k].text) := by rw [own.cellAt (k * 2 + 1) (by omega)]; exact fg 1 (by omega)
          have hts : fs[k].text.size ≤ 16384 := Nat.le_trans (text_le (List.getElem_mem hlt)) (repo_sum HR.out).2
          have hupd : fitB l fs[k] = true → (updF l fs[k]).text.size ≤ fs[k].text.size + l.length * 4096 := fun q => upd_le HC.out q
          have hno : fitB l fs[k] = false → D = ([], 2) := fun q => by
            have hne : (fs.all (fitB l)) = false := by
              rw [List.all_eq_false]
              exact ⟨fs[k], List.getElem_mem hlt, by rw [q]; decide⟩
            rw [← HD.out, HC.out, HR.out, HA.out, hne]; rfl
          have hnx := mix_next l fs k hlt
          have htk : (fs.map (updF l)).take (k + 1) = (fs.map (updF l)).take k ++ [updF l fs[k]] := by
            rw [List.take_succ_eq_append_getElem (by rw [List.length_map]; exact hlt), List.getElem_map]
          have hset : ∀ t, ((mixF l fs k).flatMap flC).set (k * 2 + 1) (.string t) = ((mixF l fs k).set k ⟨fs[k].path, t⟩).flatMap flC := fun t => by
            rw [flat_setF _ k (by omega), hmk]
          have HNX := Lib.hid hnx
          have HTK := Lib.hid htk
          have HSET := Lib.hid hset
          have HNO := Lib.hid hno
          have HUPD := Lib.hid hupd
          clear hnx htk hset hno hupd fg hmk
          generalize hx : fs[k] = x at *
          have HX := Lib.hid hx
          clear hx
          have hck := HC.out
          go_wp2_with fail
          refine Calls.mono (editOf _ _ l x.path (HE.out.ext xw)) ?_
          rintro ee w6 ⟨vm, rfl, hM, x6⟩
          have own6 := owns_ext own x6
          have e16 := x6.cell e1
          have bS6 := x6.keeps bS
          have bR6 := x6.keeps bR
          have cS6 := x6.cell cS
          have xw6 := xw.trans x6
          clear own e0 e1 bS bR cS h1 h4
          go_wp2_with fail
          refine Calls.mono (editFits _ vm (ofL l x.path) x.text.size hM) ?_
          rintro ee w7 ⟨rfl, x7⟩
          have own7 := owns_ext own6 x7
          have e17 := x7.cell e16
          have bS7 := x7.keeps bS6
          have bR7 := x7.keeps bR6
          have cS7 := x7.cell cS6
          have xw7 := xw6.trans x7
          have hM7 := hM.ext x7
          clear own6 e16 bS6 bR6 cS6 hM xw xw6
          cases hf : fitB l x with
          | false =>
            have hDe := HNO.out hf
            subst hDe
            unfold fitB at hf
            rw [hf]
            go_wp2_with ((with_reducible refine at_store 24 (.tmp 4) (.tmp 69) ?_); refine wpl_store (by rfl) 24 (.tmp 4) (.tmp 69) rfl (G + 1) #[.slice none 0 0] (by rfl) (by rfl) 24 _ bR7 (info1 _) rfl nil_one ?_)
            refine bodyPost_ret (results_cellT rfl _ _ (G + 1) _ _ _ _ (by rfl) (hfin _ _ bR7 _) Tryd.underlying24 rfl (info1 _)) rfl ?_
            exact ap_err ((X0.trans xw7).grown grown_row1 (fun k hk => by cases hk; rw [hG]; omega)) 2
          | true =>
            have hz := HUPD.out hf
            have hokf := ok_of hck hf
            have HFT := Lib.hid hf
            unfold fitB at hf
            rw [hf]
            clear hf hck
            have hM' := hM7
            go_wp2_with fail
            refine Calls.mono (editDone _ vm (ofL l x.path) x.text hM7 hokf (Nat.le_trans (ofL_len _ _) hl) (by omega)) ?_
            rintro ee w8 ⟨rfl, x8⟩
            have hput : (⟨(doneFrom x.text.data.toList 0 (ofL l x.path)).toArray⟩ : ByteArray) = (updF l x).text := rfl
            rw [hput]
            clear hput hokf hM7 hM'
            have own8 := owns_ext own7 x8
            have e18 := x8.cell e17
            have bS8 := x8.keeps bS7
            have bR8 := x8.keeps bR7
            have xw8 := xw7.trans x8
            have fr8 := own8.frozenAt (k * 2 + 1)
            have hlx : ((mixF l fs k).flatMap flC).length = fs.length * 2 := own8.1
            obtain ⟨own9, gr9⟩ := own8.stored (k * 2 + 1) (.string (updF l x).text)
            have b8 : ∃ cur8, w8.heap[gb]? = some (.cells cur8 42 (0, 0)) := by
              rcases own8.2 with ⟨h, _⟩ | ⟨g, _, c, h, _, hc, _⟩
              · cases h
              · cases h; exact ⟨c, hc⟩
            obtain ⟨cur8, b8⟩ := b8
            have hgS : gb ≠ S := fun e => by rw [e, bS8] at b8; injection b8 with b8; injection b8 with _ b8; exact absurd b8 (by decide)
            have hgG : gb ≠ G + 1 := fun e => by rw [e, bR8] at b8; injection b8 with b8; injection b8 with _ b8; exact absurd b8 (by decide)
            have bS9 : (w8.setCell ⟨gb, k * 2 + 1, none⟩ (.string (updF l x).text)).heap[S]? = some (.cells #[.slice (some ⟨gb, 0, none⟩) fs.length c4] 24 (0, 0)) := by rw [gr9.block S (block_lt bS8) (fun e => hgS (Option.some.inj e).symm)]; exact bS8
            have bR9 : (w8.setCell ⟨gb, k * 2 + 1, none⟩ (.string (updF l x).text)).heap[G + 1]? = some (.cells #[.slice none 0 0] 24 (0, 0)) := by rw [gr9.block (G + 1) (block_lt bR8) (fun e => hgG (Option.some.inj e).symm)]; exact bR8
            have e9 : (w8.setCell ⟨gb, k * 2 + 1, none⟩ (.string (updF l x).text)).cell? ⟨gb, k * 2 + 1, none⟩ = some (.string (updF l x).text) := by
              rw [own9.cellAt (k * 2 + 1) (by omega), List.getElem?_set_self (by omega)]
            have xw9 : Ext w0 (w8.setCell ⟨gb, k * 2 + 1, none⟩ (.string (updF l x).text)) := xw8.setCell (p := ⟨gb, k * 2 + 1, none⟩) hge _
            rw [HSET.out] at own9
            have hux : (⟨x.path, (updF l x).text⟩ : Fl) = updF l x := rfl
            rw [hux, HNX.out] at own9
            have hsz := hz
            generalize updF l x = u at *
            have hwk : IntKind.i64.wrap ((A : Int) + (u.text.size : Int)) = (((A + u.text.size : Nat)) : Int) := by rw [wrap64_small (by omega) (by omega)]; omega
            clear own7 own8 e17 bS7 bR7 xw7 bS8 bR8 b8 HSET hux HNX HNO HUPD
            have HTK' := Lib.hid (show longB ((fs.map (updF l)).take (k + 1)) = (Lg || decide (4096 < u.text.size)) by rw [HTK.out, longB_snoc, HLL.out])
            have HTS' := Lib.hid (show sumT ((fs.map (updF l)).take (k + 1)) = A + u.text.size by rw [HTK.out, sumT_snoc, HAA.out])
            have hfit' : ∀ j (hj : j < fs.length), j < k + 1 → fitB l fs[j] = true := fun j hj hj1 => by
              by_cases e : j = k
              · subst e; rw [HX.out]; exact HFT.out
              · exact HFIT.out j hj (by omega)
            have HFIT' := Lib.hid hfit'
            clear hfit'
            cases hlong : decide ((4096 : Int) < (u.text.size : Int)) with
            | true =>
              have hl2 : decide (4096 < u.text.size) = true := by rw [decide_eq_true_eq] at hlong ⊢; omega
              cases Lg with
              | true =>
                go_wp2_with fail
                go_roundg (fs.length - (k + 1))
                case measure => omega
                case rel => exact ⟨k + 1, A + u.text.size, true, by omega, by omega, by go_num, by go_num, by rfl, HTS'.out.symm, by rw [HTK'.out, hl2]; rfl, HFIT'.out, by omega, own9, bS9, bR9, xw9⟩
              | false =>
                go_wp2_with fail
                go_roundg (fs.length - (k + 1))
                case measure => omega
                case rel => exact ⟨k + 1, A + u.text.size, true, by omega, by omega, by go_num, by go_num, by rfl, HTS'.out.symm, by rw [HTK'.out, hl2]; rfl, HFIT'.out, by omega, own9, bS9, bR9, xw9⟩
            | false =>
              have hl2 : decide (4096 < u.text.size) = false := by rw [decide_eq_false_iff_not] at hlong ⊢; omega
              cases Lg with
              | true =>
                go_wp2_with fail
                go_roundg (fs.length - (k + 1))
                case measure => omega
                case rel => exact ⟨k + 1, A + u.text.size, true, by omega, by omega, by go_num, by go_num, by rfl, HTS'.out.symm, by rw [HTK'.out, hl2]; rfl, HFIT'.out, by omega, own9, bS9, bR9, xw9⟩
              | false =>
                go_wp2_with fail
                go_roundg (fs.length - (k + 1))
                case measure => omega
                case rel => exact ⟨k + 1, A + u.text.size, false, by omega, by omega, by go_num, by go_num, by rfl, HTS'.out.symm, by rw [HTK'.out, hl2]; rfl, HFIT'.out, by omega, own9, bS9, bR9, xw9⟩
        · obtain rfl : k = fs.length := by omega
          have htk : (fs.map (updF l)).take fs.length = fs.map (updF l) := List.take_of_length_le (by rw [List.length_map]; omega)
          have hmx : mixF l fs fs.length = fs.map (updF l) := by
            unfold mixF
            rw [htk, List.drop_length, List.append_nil]
          have hfa : (fs.all (fitB l)) = true := by
            rw [List.all_eq_true]
            intro e he
            obtain ⟨j, hj, rfl⟩ := List.getElem_of_mem he
            exact HFIT.out j hj hj
          have hD2 : D = if (longB (fs.map (updF l)) || decide (16384 < sumT (fs.map (updF l)))) = true then ([], 3) else (fs.map (updF l), 0) := by
            rw [← HD.out, HC.out, HR.out, HA.out, hfa]; rfl
          have hsum := HAA.out
          have hlg := HLL.out
          rw [htk] at hsum hlg
          rw [← hsum, ← hlg] at hD2
          have HD2 := Lib.hid hD2
          rw [hmx] at own
          clear hD2 hsum hlg hfa htk hmx
          cases hlong : decide ((16384 : Int) < (A : Int)) with
          | true =>
            have hl2 : decide (16384 < A) = true := by rw [decide_eq_true_eq] at hlong ⊢; omega
            have hDe : D = ([], 3) := by rw [HD2.out, hl2]; simp
            subst hDe
            clear hl2
            cases Lg with
            | true =>
              go_wp2_with ((with_reducible refine at_store 24 (.tmp 4) (.tmp 101) ?_); refine wpl_store (by rfl) 24 (.tmp 4) (.tmp 101) rfl (G + 1) #[.slice none 0 0] (by rfl) (by rfl) 24 _ bR (info1 _) rfl nil_one ?_)
              refine bodyPost_ret (results_cellT rfl _ _ (G + 1) _ _ _ _ (by rfl) (hfin _ _ bR _) Tryd.underlying24 rfl (info1 _)) rfl ?_
              exact ap_err ((X0.trans xw).grown grown_row1 (fun k hk => by cases hk; rw [hG]; omega)) 3
            | false =>
              go_wp2_with ((with_reducible refine at_store 24 (.tmp 4) (.tmp 101) ?_); refine wpl_store (by rfl) 24 (.tmp 4) (.tmp 101) rfl (G + 1) #[.slice none 0 0] (by rfl) (by rfl) 24 _ bR (info1 _) rfl nil_one ?_)
              refine bodyPost_ret (results_cellT rfl _ _ (G + 1) _ _ _ _ (by rfl) (hfin _ _ bR _) Tryd.underlying24 rfl (info1 _)) rfl ?_
              exact ap_err ((X0.trans xw).grown grown_row1 (fun k hk => by cases hk; rw [hG]; omega)) 3
          | false =>
            have hl2 : decide (16384 < A) = false := by rw [decide_eq_false_iff_not] at hlong ⊢; omega
            cases Lg with
            | true =>
              have hDe : D = ([], 3) := by rw [HD2.out, hl2]; rfl
              subst hDe
              go_wp2_with ((with_reducible refine at_store 24 (.tmp 4) (.tmp 101) ?_); refine wpl_store (by rfl) 24 (.tmp 4) (.tmp 101) rfl (G + 1) #[.slice none 0 0] (by rfl) (by rfl) 24 _ bR (info1 _) rfl nil_one ?_)
              refine bodyPost_ret (results_cellT rfl _ _ (G + 1) _ _ _ _ (by rfl) (hfin _ _ bR _) Tryd.underlying24 rfl (info1 _)) rfl ?_
              exact ap_err ((X0.trans xw).grown grown_row1 (fun k hk => by cases hk; rw [hG]; omega)) 3
            | false =>
              have hDe : D = (fs.map (updF l), 0) := by rw [HD2.out, hl2]; rfl
              subst hDe
              have hone := slice_one a4 fs.length c4
              go_wp2_with first
                | ((with_reducible refine at_load 24 (.tmp 10) ?_); refine wpl_load (by rfl) 24 (.tmp 10) rfl S (by rfl) 24 #[.slice a4 fs.length c4] (0, 0) _ bS Tryd.underlying24 rfl (info1 _) ?_)
                | ((with_reducible refine at_store 24 (.tmp 4) (.tmp 102) ?_); refine wpl_store (by rfl) 24 (.tmp 4) (.tmp 102) rfl (G + 1) #[.slice a4 fs.length c4] (by rfl) (by rfl) 24 _ bR (info1 _) rfl hone ?_)
              refine bodyPost_ret (results_cellT rfl _ _ (G + 1) _ _ _ _ (by rfl) (hfin _ _ bR _) Tryd.underlying24 rfl (info1 _)) rfl ?_
              refine ⟨_, by rfl, ?_, (X0.trans xw).grown grown_row1 (fun k hk => by cases hk; rw [hG]; omega)⟩
              have hne : (Value.slice a4 fs.length c4).ownBlock = none ∨ (Value.slice a4 fs.length c4).ownBlock ≠ some (G + 1) := by
                rcases own.2 with ⟨h, _⟩ | ⟨g, _, c, h, _, hc, _⟩
                · rw [h]; exact .inl rfl
                · rw [h]
                  refine .inr fun e => ?_
                  have e : g = G + 1 := Option.some.inj e
                  rw [e, bR] at hc
                  injection hc with hc
                  injection hc with _ hc
                  exact absurd hc (by decide)
              have hlm : (fs.map (updF l)).length = fs.length := List.length_map _
              show World.ownsRow _ _ _ _ _ (fs.map (updF l)).length ((fs.map (updF l)).flatMap flC)
              rw [hlm]
              exact ownsRow_base (own.kept grown_row1 hne) (by rw [hG]; have := X0.size; omega)
end Go.Proofs.YtgcbkhmaabmdjaaDoor
