/- Stores into an object's cells; what decoding computes, by the reader. -/
import Derived.Test.YtpadfabjihaapaaGreatDoorObH
import Derived.Test.YtpadfabjihaapaaGreatDoorObC
namespace Go.Proofs.YtpadfabjihaapaaGreatDoor
open Go.RowKit
set_option linter.unusedVariables false
set_option linter.unusedSimpArgs false

def setFrom (cs : Array Value) : Nat → List Value → Array Value
  | _, [] => cs
  | o, v :: r => setFrom (cs.setIfInBounds o v) (o + 1) r
theorem heap_setCells {t : TypeId} (b : Nat) : ∀ (vs : List Value) (o : Nat) (w : World) (cs : Array Value), w.heap[b]? = some (.cells cs t (0, 0)) → (w.setCells b o vs).heap[b]? = some (.cells (setFrom cs o vs) t (0, 0))
  | [], _, _, _, h => h
  | v :: r, o, w, cs, h => by
    rw [World.setCells, setFrom]
    exact heap_setCells b r (o + 1) _ _ (block_setCell h v)
theorem grown_setCells (b : Nat) : ∀ (vs : List Value) (o : Nat) (w : World), w.grownBy (w.setCells b o vs) (some b)
  | [], _, w => World.grownBy.refl _ _
  | v :: r, o, w => by rw [World.setCells]; exact grown_trans (grown_setCell w b o v) (grown_setCells b r (o + 1) _)
theorem setFrom_mid : ∀ (vs old pre post : List Value), old.length = vs.length → setFrom (pre ++ old ++ post).toArray pre.length vs = (pre ++ vs ++ post).toArray
  | [], [], pre, post, _ => rfl
  | v :: r, x :: old, pre, post, h => by
    rw [setFrom]
    have e : (pre ++ x :: old ++ post).toArray.setIfInBounds pre.length v = ((pre ++ [v]) ++ old ++ post).toArray := by simp
    have e2 : pre.length + 1 = (pre ++ [v]).length := by simp
    rw [e, e2, setFrom_mid r old (pre ++ [v]) post (by simpa using h)]
    simp
theorem there_of {w : World} {b : Nat} {cs : Array Value} {t : TypeId} (h : w.heap[b]? = some (.cells cs t (0, 0))) (o n : Nat) (hn : o + n ≤ cs.size) : w.there b o n := fun j hj => by
  rw [block_cell h, block_free h]
  exact ⟨by simp; omega, rfl⟩
theorem obj_set1 (vb ve vp u : Value) (o : ObjL) (b : List UInt8) : (objC vb ve vp o).toArray.setIfInBounds 1 u = (objC u ve vp { o with bytes := b }).toArray := by simp [objC]
theorem obj_set2 (vb ve vp u : Value) (o : ObjL) (b : List EntL) : (objC vb ve vp o).toArray.setIfInBounds 2 u = (objC vb u vp { o with ents := b }).toArray := by simp [objC]
theorem obj_tree (vb ve vp : Value) (o : ObjL) (t : List UInt8) (h : o.tree.length = 32) (ht : t.length = 32) : setFrom (objC vb ve vp o).toArray 3 (t.map bc) = (objC vb ve vp { o with tree := t }).toArray := by
  have := setFrom_mid (t.map bc) (o.tree.map bc) [.int .i64 o.kind, vb, ve] [vp, .int .u32 (o.num : Int), .string o.note] (by simp [h, ht])
  exact this
theorem set_app (pre : List Value) (x y : Value) (post : List Value) (n : Nat) (h : pre.length = n) : (pre ++ x :: post).toArray.setIfInBounds n y = (pre ++ y :: post).toArray := by
  subst h
  simp
theorem obj_set35 (vb ve vp u : Value) (o : ObjL) (b : List (List UInt8)) (h : o.tree.length = 32) : (objC vb ve vp o).toArray.setIfInBounds 35 u = (objC vb ve u { o with pars := b }).toArray :=
  set_app ([.int .i64 o.kind, vb, ve] ++ o.tree.map bc) vp u [.int .u32 (o.num : Int), .string o.note] 35 (by simp [h])
theorem obj_set36 (vb ve vp : Value) (o : ObjL) (b : Nat) (h : o.tree.length = 32) : (objC vb ve vp o).toArray.setIfInBounds 36 (.int .u32 (b : Int)) = (objC vb ve vp { o with num := b }).toArray := by
  have := set_app ([.int .i64 o.kind, vb, ve] ++ o.tree.map bc ++ [vp]) (.int .u32 (o.num : Int)) (.int .u32 (b : Int)) [.string o.note] 36 (by simp [h])
  simpa [objC] using this
theorem obj_set37 (vb ve vp : Value) (o : ObjL) (b : ByteArray) (h : o.tree.length = 32) : (objC vb ve vp o).toArray.setIfInBounds 37 (.string b) = (objC vb ve vp { o with note := b }).toArray := by
  have := set_app ([.int .i64 o.kind, vb, ve] ++ o.tree.map bc ++ [vp, .int .u32 (o.num : Int)]) (.string o.note) (.string b) [] 37 (by simp [h])
  simpa [objC] using this

/-- Where a reader is: the place, the error. -/
abbrev St := Nat × Int
def rN (l : List UInt8) (s : St) (n : Nat) : Nat := num (rTake l s.1 s.2 n)
def rS (l : List UInt8) (s : St) (n : Int) : St := rNext l s.1 s.2 n
def zObj (k : Int) : ObjL := { kind := k, bytes := [], ents := [], tree := z32, pars := [], num := 0, note := ⟨#[]⟩ }
/-- One entry more. -/
def stepE (l : List UInt8) (a : List EntL × St × Bool) : List EntL × St × Bool :=
  let s1 := tNext l a.2.1.1 a.2.1.2
  let s2 := rS l s1 1
  (a.1 ++ [{ name := ⟨(tTake l a.2.1.1 a.2.1.2).toArray⟩, folder := decide (rN l s1 1 = 1), id := padId (rTake l s2.1 s2.2 32) }], rS l s2 32, a.2.2 && decide (rN l s1 1 ≤ 1))
def itE (l : List UInt8) (s : St) : Nat → List EntL × St × Bool
  | 0 => ([], s, true)
  | i + 1 => stepE l (itE l s i)
/-- One parent more. -/
def itP (l : List UInt8) (s : St) : Nat → List (List UInt8) × St
  | 0 => ([], s)
  | i + 1 => ((itP l s i).1 ++ [padId (rTake l (itP l s i).2.1 (itP l s i).2.2 32)], rS l (itP l s i).2 32)
/-- What has been read, ahead of the last questions: the object, the reader's place and error, the flags. -/
def readP (l : List UInt8) : ObjL × St × Bool :=
  let k := rN l (0, 0) 1
  let s1 := rS l (0, 0) 1
  if k = 1 then
    let s2 := rS l s1 2
    ({ zObj 1 with bytes := rTake l s2.1 s2.2 (rN l s1 2) }, rS l s2 (rN l s1 2), true)
  else if k = 2 then
    let r := itE l (rS l s1 1) (rN l s1 1)
    ({ zObj 2 with ents := r.1 }, r.2.1, r.2.2)
  else if k = 3 then
    let s2 := rS l s1 32
    let r := itP l (rS l s2 1) (rN l s2 1)
    let s4 := rS l r.2 4
    ({ zObj 3 with tree := padId (rTake l s1.1 s1.2 32), pars := r.1, num := rN l r.2 4, note := ⟨(tTake l s4.1 s4.2).toArray⟩ }, tNext l s4.1 s4.2, true)
  else (zObj k, s1, true)
/-- What comes of decoding: the object, the error. -/
def decP (l : List UInt8) : ObjL × Int :=
  let k := rN l (0, 0) 1
  let r := readP l
  if ¬ (k = 1 ∨ k = 2 ∨ k = 3) ∧ 0 < l.length then (zObj 0, 150)
  else if r.2.1.2 ≠ 0 then (zObj 0, 7)
  else if ((l.length : Int) - r.2.1.1 > 0 || !r.2.2 || !checkB r.1) = true then (zObj 0, 150)
  else (r.1, 0)
end Go.Proofs.YtpadfabjihaapaaGreatDoor
