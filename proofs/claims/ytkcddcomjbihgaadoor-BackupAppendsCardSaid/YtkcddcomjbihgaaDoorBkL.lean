/- Backup, plain: what Check says is what the document says. -/
import Derived.Test.YtkcddcomjbihgaaDoorBkD
namespace Go.Proofs.YtkcddcomjbihgaaDoor
open Go.RowKit
set_option linter.unusedVariables false
set_option linter.unusedSimpArgs false

/-- Do entries follow one another from a mark on? -/
def enB (vn : Nat) : Mk → List LgE → Bool
  | _, [] => true
  | m, e :: l => (decide (e.m.2 = m.2 + 1) && (decide (m.1 ≤ e.m.1) && (decide (e.m.1 ≤ vn) && decide (e.b.length ≤ 40000)))) && enB vn e.m l
/-- May a peer be? -/
def rightB (p : Pr) : Bool :=
  (serverB p.me && (viewedB p.v || veq p.v v0) && decide (p.log.length ≤ 16)) && (meq p.base m0 && decide (p.log.length = 0) || decide (0 < p.base.1) && decide (p.base.1 ≤ p.v.n)) && enB p.v.n p.base p.log && decide (p.acked ≤ (lastM p).2)
    && ((!p.known || (p.me == p.v.p && p.v.b != 0)) && (p.known || decide (p.acked = 0)) && (!p.joined || p.me == p.v.b) && (!p.instep || p.joined))
theorem ents_all (vn : Nat) : ∀ (b : Mk) (l : List LgE) (us : List Hd), us.length = l.length → mkOk b → (∀ e ∈ l, lgOk e) → (entsL b l us).all (okEn vn) = enB vn b l
  | _, [], [], _, _, _ => rfl
  | b, e :: l, u :: us, h, hb, hl => by
    rw [entsL, List.all_cons, enB, ents_all vn e.m l us (by simpa using h) (hl e (List.mem_cons_self ..)).1 (fun x hx => hl x (List.mem_cons_of_mem _ hx))]
    congr 1
    have h1 := (hl e (List.mem_cons_self ..)).1
    unfold mkOk at h1 hb
    unfold okEn
    rw [Bool.eq_iff_iff]
    simp
    omega
theorem server_bd {n : Int} (h : serverB n = true) : 1 ≤ n ∧ n ≤ 3 := by simpa [serverB] using h
theorem prim_right {p : Pr} (h0 : serverB p.me = true) (h1 : (viewedB p.v || veq p.v v0) = true) : primB p = (p.me == p.v.p) ∧ secB p = (p.me == p.v.b) := by
  have hm := server_bd h0
  rcases Bool.or_eq_true _ _ ▸ h1 with h | h
  · have hn : 0 < p.v.n := by
      unfold viewedB at h
      simp at h
      exact h.1
    simp [primB, secB, hn]
  · have hv : p.v.n = 0 ∧ p.v.p = 0 ∧ p.v.b = 0 := by simpa [veq, v0] using h
    obtain ⟨h1, h2, h3⟩ := hv
    have e : (p.me == (0 : Int)) = false := by rw [beq_eq_false_iff_ne]; omega
    simp [primB, secB, h1, h2, h3, e]
theorem chk_right (p : Pr) (us : List Hd) (hl : us.length = p.log.length) (hp : PrOk p) (hok : ∀ e ∈ p.log, lgOk e) : chkAll p us = rightB p := by
  unfold chkAll chkE chk5 chk4 chk1 chk0 rightB
  rw [ents_all _ _ _ _ hl hp.base hok]
  cases h0 : serverB p.me with
  | false => simp
  | true =>
    cases h1 : (viewedB p.v || veq p.v v0) with
    | false => simp
    | true =>
      obtain ⟨e1, e2⟩ := prim_right h0 h1
      rw [e1, e2]
      generalize enB p.v.n p.base p.log = E
      generalize (lastM p).2 = M
      generalize (p.me == p.v.p) = a
      generalize (p.me == p.v.b) = b
      have e3 : ((p.log.length : Int) == 0) = decide (p.log.length = 0) := by rw [Bool.eq_iff_iff]; simp
      have e4 : ((p.acked : Int) == 0) = decide (p.acked = 0) := by rw [Bool.eq_iff_iff]; simp
      rw [e3, e4]
      have e5 : (p.v.b != 0) = !(p.v.b == 0) := rfl
      rw [e5]
      generalize (p.v.b == 0) = c
      generalize decide (p.acked = 0) = d
      generalize decide (p.acked ≤ M) = f
      generalize decide (p.log.length ≤ 16) = g
      generalize (meq p.base m0 && decide (p.log.length = 0) || decide (0 < p.base.1) && decide (p.base.1 ≤ p.v.n)) = k
      generalize p.known = l
      generalize p.joined = m
      generalize p.instep = n
      revert E a b c d f g k l m n
      decide
theorem bkCheck (w : World) (vl : Value) (p : Pr) (h : IsLg w vl p.log) (hp : PrOk p) :
    Calls Tryd.prog 23 #[.agg #[.int .i64 p.me, .int .u32 (p.v.n : Int), .int .i64 p.v.p, .int .i64 p.v.b, .int .u32 (p.base.1 : Int), .int .u32 (p.base.2 : Int), vl, .bool p.known, .bool p.joined, .bool p.instep, .int .u32 (p.acked : Int)]] w fun e w' => e = .returned (.int .i64 (if rightB p = true then 0 else 360)) ∧ Ext w w' := by
  obtain ⟨hok, us, hus⟩ := h
  refine Calls.mono (bkCheckU w vl p us hok hus) ?_
  rintro e w' ⟨rfl, x⟩
  rw [chk_right p us hus.len hp hok]
  exact ⟨rfl, x⟩
end Go.Proofs.YtkcddcomjbihgaaDoor
