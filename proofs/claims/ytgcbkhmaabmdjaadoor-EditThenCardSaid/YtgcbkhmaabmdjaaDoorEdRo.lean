/- The walk of the reference's One. -/
import Derived.Test.YtgcbkhmaabmdjaaDoorEdQ
namespace Go.Proofs.YtgcbkhmaabmdjaaDoor
open Go.RowKit Go.Deep Go.ChangeShapes Go.WideShapes
set_option linter.unusedVariables false

theorem fit_same (l : List Ed) (n : Int) (h : ∀ e ∈ l, okOne e = true) : fitsL l n = fitR l n := by
  unfold fitsL fitR
  induction l with
  | nil => rfl
  | cons e l ih =>
    have ho := okOne_all (h e (List.mem_cons_self ..))
    have ih := ih (fun x hx => h x (List.mem_cons_of_mem _ hx))
    rw [List.any_cons, List.all_cons, Bool.not_or, ih, IntWalk.wrap64_in _ (by omega)]
    congr 1
    rw [Bool.eq_iff_iff]
    simp

def refOneR (s : ByteArray) (m : List Ed) : ByteArray × Bool := if fitR m s.size = true then (⟨(doneFrom s.data.toList 0 m).toArray⟩, true) else (ByteArray.empty, false)

set_option maxHeartbeats 4000000 in
set_option maxRecDepth 100000 in
theorem refOne (w : World) (v : Value) (m : List Ed) (s : ByteArray) (h : IsE w v m) (hc : ∀ e ∈ m, okOne e = true) (hok : fitR m s.size = true → okFrom s.size 0 m) (hm : m.length ≤ 1000000) (hs : s.size ≤ 1099511627776) :
    Calls Tryd.prog 36 #[.string s, v] w fun e w' => e = .returned (.tuple #[.string (refOneR s m).1, .bool (refOneR s m).2]) ∧ Ext w w' := by
  have hL : refOneR s m = if fitR m s.size = true then (⟨(doneFrom s.data.toList 0 m).toArray⟩, true) else (ByteArray.empty, false) := rfl
  generalize refOneR s m = R at *
  have hx := h
  obtain ⟨ao, cap, rfl, b1, m1, z1, g1⟩ := h.opened
  clear z1 g1 h
  have HL := Lib.hid hL
  clear hL
  go_enter Tryd.func36, Tryd.ntmps36
  go_wp2_with fail
  refine Calls.mono (refFit _ _ m _ hx hc) ?_
  rintro e w1 ⟨rfl, x1⟩
  cases hf : fitR m s.size
  · have HR := Lib.hid (by rw [HL.out, hf]; rfl : R = (ByteArray.empty, false))
    clear HL hf hok
    go_wp2
    go_ret2
    exact ⟨by rw [HR.out]; rfl, x1⟩
  · have HR := Lib.hid (by rw [HL.out, hf]; rfl : R = (⟨(doneFrom s.data.toList 0 m).toArray⟩, true))
    have HOK := Lib.hid (hok hf)
    clear hok hf HL
    go_wp2_with fail
    refine Calls.mono (refPlain _ s hs) ?_
    rintro e w2 ⟨v2, rfl, o2, x2⟩
    have hY : IsY w2 v2 (plainN s.data.toList s.size) := by
      have := IsSl.of_owns o2
      unfold IsY
      rw [plainN_len]
      exact this
    go_wp2_with fail
    refine Calls.mono (refDo _ _ m _ _ (hx.ext (x1.trans x2)) hY (by rw [plainN_len]; exact HOK.out) hm (by rw [plainN_len]; exact hs)) ?_
    rintro e w3 ⟨v3, n, rfl, o3, hn, hn2, x3⟩
    rw [plainN_len] at hn2
    have hZ : IsY w3 v3 (doB (plainN s.data.toList s.size) 0 m) := by
      have := IsSl.of_owns o3
      unfold IsY
      rw [hn] at this
      exact this
    have hfst : (doB (plainN s.data.toList s.size) 0 m).map Prod.fst = doneFrom s.data.toList 0 m := by
      rw [doB_fst]
      congr 1
      have := plainN_fst s.data.toList
      simpa using this
    clear o2 o3 hY
    go_wp2_with fail
    refine Calls.mono (refText _ _ _ hZ (by omega)) ?_
    rintro e w4 ⟨rfl, x4⟩
    rw [hfst]
    clear hZ hn hfst
    go_wp2
    go_ret2
    exact ⟨by rw [HR.out]; rfl, ((x1.trans x2).trans x3).trans x4⟩

end Go.Proofs.YtgcbkhmaabmdjaaDoor
