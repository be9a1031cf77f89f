/- Bytes copied into an array; the walks of object's reader: id, text. -/
import Derived.Test.YtpadfabjihaapaaGreatDoorObB
import Derived.Test.YtpadfabjihaapaaGreatDoorRegS
import Derived.Laws.CopyRow
import Derived.Laws.IdiomCopy
import Derived.Lib.SlBuf
namespace Go.Proofs.YtpadfabjihaapaaGreatDoor
open Go.RowKit
set_option linter.unusedVariables false
set_option linter.unusedSimpArgs false

theorem grown_setRow' {w : World} {g : Nat} {cs : Array Value} : w.grownBy (w.setRow g cs) (some g) :=
  ⟨rfl, rfl, rfl, by simp [World.setRow], fun k _ hne => setRow_other w g k cs (fun e => hne (by rw [e]))⟩
/-- 'copy(a[:], s)': bytes into an array's block. -/
theorem copy_bytes {P : Program} (w : World) (dT sT ty e : TypeId) (hu : P.underlying dT = some (.slice e)) (hs : (P.info? e).map (·.size) = some 1) (H n : Nat) (cur : List UInt8) (T : TypeId)
    (hg : w.heap[H]? = some (.cells (cur.map bc).toArray T (0, 0))) (hc : cur.length = n) (v : Value) (t : List UInt8) (h : IsB w v t) (ht : t.length ≤ n) :
    ∃ w', (Builtin.copy_ #[dT, sT] ty #[.slice (some ⟨H, 0, none⟩) n n, v]).run P w = .ok (goInt t.length) w' ∧ w'.heap[H]? = some (.cells ((t ++ cur.drop t.length).map bc).toArray T (0, 0)) ∧ w.grownBy w' (some H) := by
  obtain ⟨_, ao, cap, rfl, h2, h3, h4, h5⟩ := h
  by_cases h0 : t = []
  · subst h0
    have hrun := run_copy_none (P := P) w dT sT ty e (some ⟨H, 0, none⟩) ao n n 0 cap hu hs (Nat.zero_min _)
    exact ⟨w, hrun, by simpa using hg, World.grownBy.refl _ _⟩
  · have hpos : 0 < t.length := List.length_pos_iff.2 h0
    obtain ⟨b, off, rfl, _⟩ := h5 0 (by simpa using hpos)
    have hsrc : ∀ j v, (t.map bc)[j]? = some v → w.cell? ((⟨b, off, none⟩ : Addr).add j) = some v := fun j v hj => lies_news h5 rfl j v hj
    have hrun := run_copy_row (P := P) w dT sT ty e H 0 n n ⟨b, off, none⟩ t.length cap (cur.map bc).toArray T (t.map bc) hu hs hg (by rw [List.length_map]; exact (Nat.min_eq_left ht).symm) hsrc (by simp; omega) (bc_one t)
    rw [List.length_map] at hrun
    refine ⟨_, hrun, ?_, grown_setRow'⟩
    rw [setRow_heap _ _ _ _ _ _ hg]
    simp [List.map_drop]

/-- Bytes filled up to a digest. -/
def padId (t : List UInt8) : List UInt8 := t ++ z32.drop t.length
theorem padId_len {t : List UInt8} (h : t.length ≤ 32) : (padId t).length = 32 := by
  unfold padId z32
  simp
  omega

/-- A text of a reader: its length, then its bytes. -/
def tTake (l : List UInt8) (at_ : Nat) (err : Int) : List UInt8 := rTake l (rNext l at_ err 1).1 (rNext l at_ err 1).2 (num (rTake l at_ err 1) : Int)
def tNext (l : List UInt8) (at_ : Nat) (err : Int) : Nat × Int := rNext l (rNext l at_ err 1).1 (rNext l at_ err 1).2 (num (rTake l at_ err 1) : Int)

end Go.Proofs.YtpadfabjihaapaaGreatDoor
