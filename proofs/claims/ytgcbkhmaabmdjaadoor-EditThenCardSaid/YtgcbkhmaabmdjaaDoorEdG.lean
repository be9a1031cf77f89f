/- The walk of edit.done: what comes of a text. -/
import Derived.Test.YtgcbkhmaabmdjaaDoorEdF
namespace Go.Proofs.YtgcbkhmaabmdjaaDoor
open Go.RowKit
set_option linter.unusedVariables false

/-- What comes of a text from place a on. -/
def doneFrom (s : List UInt8) : Nat → List Ed → List UInt8
  | a, [] => s.drop a
  | a, e :: es => (s.drop a).take (e.at_.toNat - a) ++ e.text.data.toList ++ doneFrom s (e.at_ + e.n).toNat es
/-- Edits that stand one behind the other, from a on, in a text of n bytes. -/
def okFrom (n : Nat) : Nat → List Ed → Prop
  | a, [] => a ≤ n
  | a, e :: es => (a : Int) ≤ e.at_ ∧ 0 ≤ e.n ∧ e.at_ + e.n ≤ n ∧ e.text.size ≤ 4096 ∧ okFrom n (e.at_ + e.n).toNat es
theorem okFrom_le (n : Nat) : ∀ (a : Nat) (l : List Ed), okFrom n a l → a ≤ n
  | a, [], h => h
  | a, e :: es, h => by obtain ⟨h1, h2, h3, _⟩ := h; omega

set_option maxHeartbeats 4000000 in
set_option maxRecDepth 100000 in
theorem editDone (w : World) (v : Value) (l : List Ed) (s : ByteArray) (h : IsE w v l) (hok : okFrom s.size 0 l) (hl : l.length ≤ 1000000) (hs : s.size ≤ 1099511627776) :
    Calls Tryd.prog 32 #[.string s, v] w fun e w' => e = .returned (.string ⟨(doneFrom s.data.toList 0 l).toArray⟩) ∧ Ext w w' := by
  obtain ⟨ao, cap, rfl, b1, m1, z1, g1⟩ := h.opened
  have G1 := Lib.hid g1
  have HO := Lib.hid h.ok
  clear g1 z1 h
  go_enter Tryd.func32, Tryd.ntmps32
  go_wp2
  go_loopg [6, 11] l.length (fun g s6 s11 wr => ∃ (k a : Nat) (out : List UInt8), k ≤ l.length ∧ l.length - k ≤ g ∧ s11 = .int .i64 k ∧ s6 = .int .i64 (a : Int) ∧ out ++ doneFrom s.data.toList a (l.drop k) = doneFrom s.data.toList 0 l ∧ okFrom s.size a (l.drop k) ∧ out.length ≤ a + 4096 * k ∧ Lib.IsBuilder 79 5 w.heap.size w.heap.size (Lib.byteCells out) wr ∧ Below w.heap.size w wr)
  case atStart =>
    refine ⟨0, 0, [], Nat.zero_le _, by omega, rfl, rfl, by simp, by simpa using hok, by simp, .inl ⟨Nat.le_refl _, _, heap_alloc_new _ _, World.ownsRow_nil _ _ _ _, by simp [Value.ownBlock]⟩, (Below.refl _ _).alloc (Nat.le_refl _) _⟩
  case round =>
    obtain ⟨k, a, out, hk, hg, rfl, rfl, heq, hokk, hout, hbld, xr⟩ := hrel
    have HEQ := Lib.hid heq
    have HOKK := Lib.hid hokk
    have ha := okFrom_le _ _ _ hokk
    clear heq hokk
    by_cases hlt : k < l.length
    · obtain ⟨p, o, rfl, e0, e1, e2, e3⟩ := G1.out k hlt
      have hpb : p < w.heap.size := World.block_lt_of_cell? _ _ e0
      have hcx : ∀ j, wr.cell? ⟨p, j, none⟩ = w.cell? ⟨p, j, none⟩ := fun j => xr.cell (p := ⟨p, j, none⟩) hpb
      have e0 := (hcx _).trans e0
      have e1 := (hcx _).trans e1
      have e2 := (hcx _).trans e2
      have e3 := (hcx _).trans e3
      clear hcx
      have hd := List.drop_eq_getElem_cons hlt
      have hokk := HOKK.out
      rw [hd] at hokk
      obtain ⟨k1, k2, k3, k4, k5⟩ := hokk
      have heq := HEQ.out
      rw [hd] at heq
      generalize l[k] = x at *
      have HEQ2 := Lib.hid heq
      have HOK5 := Lib.hid k5
      clear heq k5 hd HEQ HOKK
      obtain ⟨b, hb⟩ : ∃ b : Nat, x.at_ = b := ⟨x.at_.toNat, by omega⟩
      obtain ⟨n, hn⟩ : ∃ n : Nat, x.n = n := ⟨x.n.toNat, by omega⟩
      obtain ⟨xp, xa, xn, xt⟩ := x
      simp only at *
      subst hb
      subst hn
      have xs := xr.size
      have hbw : w.heap.size < wr.heap.size := by
        rcases hbld with ⟨_, u, hu, _⟩ | ⟨_, u, hu, _⟩ <;> exact block_lt hu
      have hbld2 := IsBuilder_ext hbld ((Ext.refl _).alloc (.cells #[.string xp, .int .i64 (b : Int), .int .i64 (n : Int), .string xt] 40))
      go_wp2_with fail
      have hsz : (s.extract a b).size = b - a := by rw [ByteArray.size_extract]; omega
      refine Calls.mono (writeString w.heap.size w.heap.size _ (s.extract a b) _ hbld2 (by rw [Lib.byteCells_length, hsz]; omega) (by simp; omega)) ?_
      rintro e w2 ⟨rfl, hb2, bel2, kp2⟩
      have hnew := heap_alloc_new wr (.cells #[.string xp, .int .i64 (b : Int), .int .i64 (n : Int), .string xt] 40)
      have hx2 := kp2 wr.heap.size (by simp) (by omega) (by intro c f e; rw [hnew] at e; simp at e)
      rw [hnew] at hx2
      have s2 : wr.heap.size < w2.heap.size := by have := bel2.size; simp at this; omega
      have q1 : w2.cell? ⟨wr.heap.size, 1, none⟩ = some (.int .i64 (b : Int)) := by rw [block_cell hx2]; rfl
      have q2 : w2.cell? ⟨wr.heap.size, 2, none⟩ = some (.int .i64 (n : Int)) := by rw [block_cell hx2]; rfl
      have q3 : w2.cell? ⟨wr.heap.size, 3, none⟩ = some (.string xt) := by rw [block_cell hx2]; rfl
      have bel2' : Below w.heap.size w w2 := (xr.alloc xs _).trans bel2
      clear bel2 kp2 hbld2 hnew e0 e1 e2 e3
      go_wp2_with fail
      refine Calls.mono (writeString w.heap.size w.heap.size _ xt _ (.inr hb2) (by rw [List.length_append, Lib.byteCells_length, Lib.strCells_length, hsz]; omega) (by omega)) ?_
      rintro e w3 ⟨rfl, hb3, bel3, kp3⟩
      have hx3 := kp3 wr.heap.size (by omega) (by omega) (by intro c f e; rw [hx2] at e; simp at e)
      rw [hx2] at hx3
      have r1 : w3.cell? ⟨wr.heap.size, 1, none⟩ = some (.int .i64 (b : Int)) := by rw [block_cell hx3]; rfl
      have r2 : w3.cell? ⟨wr.heap.size, 2, none⟩ = some (.int .i64 (n : Int)) := by rw [block_cell hx3]; rfl
      have bel3' := bel2'.trans bel3
      have hle3 : b + n ≤ s.size := by omega
      clear q1 q2 q3 hx2 hx3 kp3 bel3 bel2' hb2 hbld
      have HSZ := Lib.hid hsz
      clear hsz
      go_wp2
      go_roundg (l.length - (k + 1))
      case measure => omega
      case rel =>
        have hcat : Lib.byteCells out ++ Lib.strCells (s.extract a b) ++ Lib.strCells xt = Lib.byteCells (out ++ ((s.data.toList.drop a).take (b - a)) ++ xt.data.toList) := by
          rw [Lib.strCells_eq, Lib.strCells_eq, Lib.extract_data]; simp [Lib.byteCells]
        rw [hcat] at hb3
        refine ⟨k + 1, b + n, out ++ ((s.data.toList.drop a).take (b - a)) ++ xt.data.toList, by omega, by omega, by go_num, by go_num, ?_, ?_, ?_, .inr hb3, bel3'⟩
        · rw [← HEQ2.out]
          simp [doneFrom, show ((b : Int) + (n : Int)).toNat = b + n from by omega]
        · have := HOK5.out
          rw [show ((b : Int) + (n : Int)).toNat = b + n from by omega] at this
          exact this
        · have h1 : ((s.data.toList.drop a).take (b - a)).length ≤ b - a := List.length_take_le _ _
          have h2 : xt.data.toList.length = xt.size := by simp
          simp only [List.length_append, h2]
          omega
    · have : k = l.length := by omega
      subst this
      have heq := HEQ.out
      rw [List.drop_length] at heq
      have HEQ3 := Lib.hid heq
      clear heq HEQ HOKK
      have hbw : w.heap.size < wr.heap.size := by
        rcases hbld with ⟨_, u, hu, _⟩ | ⟨_, u, hu, _⟩ <;> exact block_lt hu
      go_wp2_with fail
      have hsz : (s.extract a s.size).size = s.size - a := by rw [ByteArray.size_extract]; omega
      refine Calls.mono (writeString w.heap.size w.heap.size _ (s.extract a s.size) _ hbld (by rw [Lib.byteCells_length, hsz]; omega) (by omega)) ?_
      rintro e w2 ⟨rfl, hb2, bel2, _⟩
      have hcat : Lib.byteCells out ++ Lib.strCells (s.extract a s.size) = Lib.byteCells (out ++ s.data.toList.drop a) := by
        rw [Lib.strCells_eq, Lib.extract_data, List.take_of_length_le (by simp)]; simp [Lib.byteCells]
      rw [hcat] at hb2
      have bel2' := xr.trans bel2
      go_wp2_with fail
      refine Calls.mono (Tryd.Builder_String_any w.heap.size w.heap.size (out ++ s.data.toList.drop a) _ (.inr hb2) (by have := bel2.size; omega)) ?_
      rintro e w3 ⟨rfl, bel3⟩
      go_wp2
      go_ret
      refine ⟨?_, bel2'.trans bel3⟩
      have e := HEQ3.out
      simp only [doneFrom] at e
      rw [← e]
      simp
end Go.Proofs.YtgcbkhmaabmdjaaDoor
