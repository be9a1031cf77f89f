/- What edits make of files; plain facts for the walk of edit.Apply. -/
import Derived.Test.YtgcbkhmaabmdjaaDoorFlG
import Derived.Test.YtgcbkhmaabmdjaaDoorEdI
namespace Go.Proofs.YtgcbkhmaabmdjaaDoor
open Go.RowKit
set_option linter.unusedVariables false
set_option linter.unusedSimpArgs false

def updF (l : List Ed) (f : Fl) : Fl := ⟨f.path, ⟨(doneFrom f.text.data.toList 0 (ofL l f.path)).toArray⟩⟩
def hasB (fs : List Fl) (p : ByteArray) : Bool := fs.any fun f => f.path.toList == p.toList
def fitB (l : List Ed) (f : Fl) : Bool := fitsL (ofL l f.path) f.text.size
def longB (fs : List Fl) : Bool := fs.any fun f => decide (4096 < f.text.size)
/-- What comes of a repository; its error. -/
def applyL (fs : List Fl) (l : List Ed) : List Fl × Int :=
  if chk l = false then ([], 280)
  else if repoB fs = false then ([], 170)
  else if (l.all fun e => hasB fs e.path) = false then ([], 4)
  else if (fs.all (fitB l)) = false then ([], 2)
  else if (longB (fs.map (updF l)) || decide (16384 < sumT (fs.map (updF l)))) = true then ([], 3)
  else (fs.map (updF l), 0)
theorem done_le (s : List UInt8) : ∀ (a : Nat) (m : List Ed), okFrom s.length a m → (doneFrom s a m).length ≤ (s.length - a) + m.length * 4096
  | a, [], h => by unfold doneFrom; rw [List.length_drop]; omega
  | a, e :: es, h => by
    obtain ⟨h1, h2, h3, h4, h5⟩ := h
    have ih := done_le s _ es h5
    have ht : e.text.data.toList.length = e.text.size := by rw [Array.length_toList]; rfl
    unfold doneFrom
    rw [List.length_append, List.length_append, ht, List.length_take, List.length_drop, List.length_cons]
    omega
theorem ba_sz (d : List UInt8) : (⟨d.toArray⟩ : ByteArray).size = d.length := rfl
theorem upd_sz (l : List Ed) (f : Fl) : (updF l f).text.size = (doneFrom f.text.data.toList 0 (ofL l f.path)).length := ba_sz _
theorem upd_le {l : List Ed} {f : Fl} (hc : chk l = true) (hf : fitB l f = true) : (updF l f).text.size ≤ f.text.size + l.length * 4096 := by
  have hs : f.text.data.toList.length = f.text.size := by rw [Array.length_toList]; rfl
  have h := done_le f.text.data.toList 0 (ofL l f.path) (by rw [hs]; exact ok_of hc hf)
  rw [hs] at h
  have hl := ofL_len l f.path
  rw [upd_sz]
  exact Nat.le_trans h (Nat.add_le_add (Nat.sub_le _ _) (Nat.mul_le_mul_right _ hl))
theorem upd_ok {l : List Ed} {f : Fl} (hc : chk l = true) (hf : fitB l f = true) (hl : l.length ≤ 1000000) (h : f.text.size ≤ 4096) (hp : f.path.size ≤ 140737488355328) : flOk (updF l f) := by
  have := upd_le hc hf
  clear hc hf
  exact ⟨hp, by omega⟩
/-- The files as far as k are done. -/
def mixF (l : List Ed) (fs : List Fl) (k : Nat) : List Fl := (fs.map (updF l)).take k ++ fs.drop k
theorem mix_len (l : List Ed) (fs : List Fl) (k : Nat) (h : k ≤ fs.length) : (mixF l fs k).length = fs.length := by
  unfold mixF
  rw [List.length_append, List.length_take, List.length_map, List.length_drop]
  omega
theorem mix_get (l : List Ed) (fs : List Fl) (k : Nat) (h : k < fs.length) : (mixF l fs k)[k]? = some fs[k] := by
  unfold mixF
  have e : ((fs.map (updF l)).take k).length = k := by rw [List.length_take, List.length_map]; omega
  rw [List.getElem?_append_right (by omega), e, Nat.sub_self, List.getElem?_drop, Nat.add_zero, List.getElem?_eq_getElem h]
theorem mix_next (l : List Ed) (fs : List Fl) (k : Nat) (h : k < fs.length) : (mixF l fs k).set k (updF l fs[k]) = mixF l fs (k + 1) := by
  unfold mixF
  have e : ((fs.map (updF l)).take k).length = k := by rw [List.length_take, List.length_map]; omega
  rw [List.set_append_right _ _ (by omega), e, Nat.sub_self, List.drop_eq_getElem_cons h, List.set_cons_zero]
  rw [List.take_succ_eq_append_getElem (by rw [List.length_map]; exact h), List.getElem_map, List.append_assoc]
  rfl
/-- A text laid into a row of files. -/
theorem row_text {cur : Array Value} {L : List Fl} {n k : Nat} {t : ByteArray} (hn : L.length = n) (hk : k < n) (h : cur.toList.take (n * 2) = L.flatMap flC) :
    (cur.setIfInBounds (k * 2 + 1) (.string t)).toList.take (n * 2) = (L.set k ⟨(L[k]'(by omega)).path, t⟩).flatMap flC := by
  subst hn
  rw [Array.toList_setIfInBounds, List.take_set, h]
  clear h
  have key : ∀ (L : List Fl) (k : Nat) (hk : k < L.length), (L.flatMap flC).set (k * 2 + 1) (.string t) = (L.set k ⟨(L[k]).path, t⟩).flatMap flC := by
    intro L
    induction L with
    | nil => intro k hk; simp at hk
    | cons x L ih =>
      intro k hk
      cases k with
      | zero => rfl
      | succ k =>
        have := ih k (by simpa using hk)
        simp only [List.getElem_cons_succ, List.set_cons_succ, List.flatMap_cons]
        rw [← this, show (k + 1) * 2 + 1 = (k * 2 + 1) + 1 + 1 from by omega]
        rfl
  exact key L k hk
theorem sumT_snoc (a : List Fl) (x : Fl) : sumT (a ++ [x]) = sumT a + x.text.size := by simp [sumT]
theorem longB_snoc (a : List Fl) (x : Fl) : longB (a ++ [x]) = (longB a || decide (4096 < x.text.size)) := by simp [longB]
end Go.Proofs.YtgcbkhmaabmdjaaDoor
