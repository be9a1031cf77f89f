/- Backup: rows of notes and of bytes as arguments; Decode and the document's told alike. -/
import Derived.Test.YtkcddcomjbihgaaDoorBkZa
import Derived.Test.YtkcddcomjbihgaaDoorBkX
namespace Go.Proofs.YtkcddcomjbihgaaDoor
open Go.RowKit Go.Deep Go.ChangeShapes Go.WideShapes
set_option linter.unusedVariables false
set_option linter.unusedSimpArgs false

abbrev NtX := Nt × Hd
def ntxC (x : NtX) : List Value := [.int .i64 x.1.kind, .int .u32 (x.1.view : Int), .int .u32 (x.1.mark.1 : Int), .int .u32 (x.1.mark.2 : Int), .int .u32 (x.1.prev.1 : Int), .int .u32 (x.1.prev.2 : Int), .slice x.2.1 x.1.bytes.length x.2.2]
def ntxOk (w : World) (x : NtX) : Prop := NtOk x.1 ∧ IsB w (.slice x.2.1 x.1.bytes.length x.2.2) x.1.bytes ∧ x.1.bytes.length ≤ 140737488351232
abbrev BsX := List UInt8 × Hd
def bsxC (x : BsX) : List Value := [.slice x.2.1 x.1.length x.2.2]
def bsxOk (w : World) (x : BsX) : Prop := IsB w (.slice x.2.1 x.1.length x.2.2) x.1 ∧ x.1.length ≤ 140737488351232
def ArgNotes (w : World) (v : Value) (xs : List NtX) : Prop := IsSl w v 7 xs.length (xs.flatMap ntxC) ∧ (∀ x ∈ xs, ntxOk w x) ∧ xs.length ≤ 140737488351232
def ArgRows (w : World) (v : Value) (xs : List BsX) : Prop := IsSl w v 1 xs.length (xs.flatMap bsxC) ∧ (∀ x ∈ xs, bsxOk w x) ∧ xs.length ≤ 140737488351232
set_option maxRecDepth 100000 in
theorem open_notes {H : Type} {enc : TypeId × Value → H} {w : World} {v : Value} {d : DataW H} {p : List MemPlace} {r : Reach} {b0 : Nat}
    (hv : Value.okWide Tryd.prog w r b0 22 v) (h : DataW.Trod enc Tryd.prog w 0 (fun _ => true) true 22 v d p) (hL : Light Tryd.prog 22 d) : ∃ l, ArgNotes w v l := by
  obtain ⟨a, len, cap, rfl⟩ := okWide_slice Tryd.underlying22 hv
  obtain ⟨u, l, e, h1, h2, h3⟩ := arg_of (opens_slice 7 56 ntxC (ntxOk w) Tryd.underlying22 (by kernel_rfl) (by omega) (by kernel_rfl) (opens_note.mono fun cs ⟨vb, n, e, h1, h2, h3⟩ => by
    obtain ⟨ao, cap, rfl, -⟩ := h2.opened
    exact ⟨(n, (ao, cap)), e, rfl, h1, h2, h3⟩)) h hL
  have e : (.slice a len cap : Value) = u := by simpa [Value.cells] using e
  subst e
  exact ⟨l, h1, h2, by omega⟩
set_option maxRecDepth 100000 in
theorem open_rows {H : Type} {enc : TypeId × Value → H} {w : World} {v : Value} {d : DataW H} {p : List MemPlace} {r : Reach} {b0 : Nat}
    (hv : Value.okWide Tryd.prog w r b0 23 v) (h : DataW.Trod enc Tryd.prog w 0 (fun _ => true) true 23 v d p) (hL : Light Tryd.prog 23 d) : ∃ l, ArgRows w v l := by
  obtain ⟨a, len, cap, rfl⟩ := okWide_slice Tryd.underlying23 hv
  obtain ⟨u, l, e, h1, h2, h3⟩ := arg_of (opens_slice 1 24 bsxC (bsxOk w) Tryd.underlying23 (by kernel_rfl) (by omega) (by kernel_rfl) ((opens_bytes Tryd.underlying28 Tryd.underlying5 (by kernel_rfl) (by kernel_rfl)).mono fun cs ⟨vb, n, e, h2, h3⟩ => by
    obtain ⟨ao, cap, rfl, -⟩ := h2.opened
    exact ⟨(n, (ao, cap)), e, rfl, h2, h3⟩)) h hL
  have e : (.slice a len cap : Value) = u := by simpa [Value.cells] using e
  subst e
  exact ⟨l, h1, h2, by omega⟩
/-- The cells of one element. -/
theorem sl_elem {α : Type} {w : World} {v : Value} {k : Nat} (c : α → List Value) {xs : List α} (h : IsSl w v k xs.length (xs.flatMap c)) (hc : ∀ x, (c x).length = k) (hk : 0 < k) (i : Nat) (hi : i < xs.length) :
    ∃ b off cap, v = .slice (some ⟨b, off, none⟩) xs.length cap ∧ xs.length ≤ cap ∧ cap ≤ 9223372036854775807 ∧ ∀ j, j < k → w.cell? ⟨b, off + i * k + j, none⟩ = (c xs[i])[j]? := by
  obtain ⟨hl, ao, cap, rfl, h2, h3, h4, h5⟩ := h
  have hfl : (xs.flatMap c).length = xs.length * k := hl
  have hik : i * k + k ≤ xs.length * k := by rw [← Nat.succ_mul]; exact Nat.mul_le_mul_right _ hi
  obtain ⟨b, off, rfl, -⟩ := h5 (i * k) (by rw [hfl]; omega)
  refine ⟨b, off, cap, rfl, h2, h3, fun j hj => ?_⟩
  obtain ⟨b2, off2, e2, c2⟩ := h5 (i * k + j) (by rw [hfl]; omega)
  simp only [Option.some.injEq, Addr.mk.injEq, and_true] at e2
  obtain ⟨rfl, rfl⟩ := e2
  rw [Nat.add_assoc, c2]
  exact flat_get c k xs (fun x _ => hc x) i hi j hj
/-- What Decode gives, error or not. -/
def decA (b : List UInt8) : Nt := if decErr b = 0 then decN b else n0
def DecA (w : World) (b : List UInt8) (e : Ending) (w' : World) : Prop := Ext w w' ∧ ∃ vb, e = .returned (.tuple #[.agg #[.int .i64 (decA b).kind, .int .u32 ((decA b).view : Int), .int .u32 ((decA b).mark.1 : Int), .int .u32 ((decA b).mark.2 : Int), .int .u32 ((decA b).prev.1 : Int), .int .u32 ((decA b).prev.2 : Int), vb], .int .i64 (decErr b)]) ∧ OwnB w' w.heap.size vb (decA b).bytes
theorem decA_of {w : World} {b : List UInt8} {e : Ending} {w' : World} (h : DecPost w b e w') : DecA w b e w' := by
  obtain ⟨x, ⟨hz, rfl⟩ | ⟨hz, vb, rfl, own⟩⟩ := h
  · have : decA b = n0 := by unfold decA; rw [if_neg hz]
    refine ⟨x, .slice none 0 0, ?_, ?_⟩
    · rw [this]
    · rw [this]
      exact World.ownsRow_nil _ _ _ _
  · have : decA b = decN b := by unfold decA; rw [if_pos hz]
    refine ⟨x, vb, ?_, ?_⟩
    · rw [this, hz]
    · rw [this]
      exact own
theorem bkDecodeA (w : World) (v : Value) (b : List UInt8) (h : IsB w v b) (hb : b.length ≤ 1000000) (hK : Tabs w) :
    Calls Tryd.prog 14 #[v] w (DecA w b) := (bkDecode w v b h hb hK).mono fun _ _ h => decA_of h
theorem rbDecodeA (w : World) (v : Value) (b : List UInt8) (h : IsB w v b) (hb : b.length ≤ 1000000) :
    Calls Tryd.prog 15 #[v] w (DecA w b) := (rbDecode w v b h hb).mono fun _ _ h => decA_of h
theorem decA_len (b : List UInt8) : (decA b).bytes.length ≤ 40000 := by
  unfold decA
  split
  · rename_i h
    exact noted_len (noted_dec h)
  · simp [n0]
theorem sameN_self (n : Nt) : sameN n n = true := by
  unfold sameN
  simp [meq]
end Go.Proofs.YtkcddcomjbihgaaDoor
