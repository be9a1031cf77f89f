/- The closure of edit.Undo; what undoes edits. -/
import Derived.Test.YtgcbkhmaabmdjaaDoorFlI
import Derived.Test.YtgcbkhmaabmdjaaDoorApp
import Derived.Test.YtgcbkhmaabmdjaaDoorEdTy
namespace Go.Proofs.YtgcbkhmaabmdjaaDoor
open Go.RowKit
set_option linter.unusedVariables false
set_option linter.unusedSimpArgs false

theorem infoEd4 : (Tryd.prog.info? 40).map (fun i => (i.zero.map (·.cells.size), i.size)) = some (some 4, 4) := by kernel_rfl
theorem tyEd : ∃ z, ETy Tryd.prog 25 40 z 4 48 := tyOf Tryd.underlying25 infoEd4 (by kernel_rfl) (by omega)
/-- How far edits move what stands behind them. -/
def mvL : List Ed → Int
  | [] => 0
  | e :: es => (e.text.size - e.n) + mvL es
def undoE (f : Fl) (m : Int) (e : Ed) : Ed := ⟨f.path, e.at_ + m, e.text.size, f.text.extract e.at_.toNat (e.at_ + e.n).toNat⟩
def undoFrom (f : Fl) : Int → List Ed → List Ed
  | _, [] => []
  | m, e :: es => undoE f m e :: undoFrom f (m + (e.text.size - e.n)) es
/-- The edits that undo edits. -/
def undoL (fs : List Fl) (l : List Ed) : List Ed := fs.flatMap fun f => undoFrom f 0 (ofL l f.path)
theorem undo_len (f : Fl) : ∀ (m : Int) (es : List Ed), (undoFrom f m es).length = es.length
  | _, [] => rfl
  | m, e :: es => by rw [undoFrom, List.length_cons, undo_len f _ es, List.length_cons]
theorem undo_snoc (f : Fl) : ∀ (es : List Ed) (m : Int) (e : Ed), undoFrom f m (es ++ [e]) = undoFrom f m es ++ [undoE f (m + mvL es) e]
  | [], m, e => by simp [undoFrom, mvL]
  | x :: es, m, e => by
    rw [List.cons_append, undoFrom, undo_snoc f es, undoFrom, mvL, List.cons_append, Int.add_assoc]
theorem mv_snoc : ∀ (es : List Ed) (e : Ed), mvL (es ++ [e]) = mvL es + (e.text.size - e.n)
  | [], e => by simp [mvL]
  | x :: es, e => by rw [List.cons_append, mvL, mv_snoc es, mvL, Int.add_assoc]
theorem mv_le : ∀ (es : List Ed), (∀ e ∈ es, okOne e = true) → -(es.length * 4096 : Int) ≤ mvL es ∧ mvL es ≤ es.length * 4096
  | [], _ => by simp [mvL]
  | e :: es, h => by
    have h1 := okOne_all (h e (List.mem_cons_self ..))
    have ih := mv_le es fun x hx => h x (List.mem_cons_of_mem _ hx)
    clear h
    rw [mvL, List.length_cons]
    omega

set_option maxHeartbeats 4000000 in
set_option maxRecDepth 100000 in
theorem undoStep (w : World) (e : Ed) (M : Nat) (m : Int) (hM : w.heap[M]? = some (.cells #[.int .i64 m] 3 (0, 0))) (h1 : 0 ≤ e.at_) (h2 : e.at_ ≤ 4096) (h3 : 0 ≤ e.n) (h4 : e.n ≤ 4096) (h5 : e.text.size ≤ 4096) (hm1 : -4398046511104 ≤ m) (hm2 : m ≤ 4398046511104) :
    Calls Tryd.prog 33 #[.agg #[.string e.path, .int .i64 e.at_, .int .i64 e.n, .string e.text], .pointer (some ⟨M, 0, none⟩)] w fun r w' => r = .returned (.int .i64 (e.at_ + m)) ∧ w.grownBy w' (some M) ∧ w'.heap[M]? = some (.cells #[.int .i64 (m + (e.text.size - e.n))] 3 (0, 0)) := by
  have bM := blk_old (o := .cells #[.string e.path, .int .i64 e.at_, .int .i64 e.n, .string e.text] 40) hM
  have cM : (w.alloc (.cells #[.string e.path, .int .i64 e.at_, .int .i64 e.n, .string e.text] 40)).cell? ⟨M, 0, none⟩ = some (.int .i64 m) := by rw [block_cell bM]; rfl
  have fM := block_free bM 0
  have w1 : IntKind.i64.wrap (e.at_ + m) = e.at_ + m := wrap64_small (by omega) (by omega)
  have w2 : IntKind.i64.wrap ((e.text.size : Int) - e.n) = (e.text.size : Int) - e.n := wrap64_small (by omega) (by omega)
  have w3 : IntKind.i64.wrap (m + ((e.text.size : Int) - e.n)) = m + ((e.text.size : Int) - e.n) := wrap64_small (by omega) (by omega)
  go_enter Tryd.func33, Tryd.ntmps33
  go_wp2
  go_ret
  refine ⟨rfl, grown_trans (World.grownBy_alloc _ _ _) (grown_setCell _ _ _ _), ?_⟩
  exact block_setCell bM _
end Go.Proofs.YtgcbkhmaabmdjaaDoor
