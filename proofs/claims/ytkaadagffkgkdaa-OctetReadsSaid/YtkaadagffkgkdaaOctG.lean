/- The walk of the reference's reader: Do. -/
import Derived.Test.YtkaadagffkgkdaaOctF
import Derived.StillTailTactics
import Derived.Deep.RegionHeld3
import Derived.Deep.DeepCutAuto
namespace Go.Proofs.Ytkaadagffkgkdaa
open Go.RowKit
set_option linter.unusedVariables false

/-- How many bytes a call takes off. -/
def askN (kind n : Int) : Int := if kind = 0 then 1 else if kind = 1 then 2 else if kind = 2 then 4 else if kind = 3 then 8 else n
/-- What a call tells. -/
def IsTold (w : World) (v : Value) (kind : Int) (t : List UInt8) : Prop := ∃ vb, v = .agg #[.int .u64 (if kind < 4 then (num t : Int) else 0), vb] ∧ IsB w vb (if kind < 4 then [] else t)

set_option maxHeartbeats 2000000 in
set_option maxRecDepth 100000 in
theorem refDo0 (w : World) (v : Value) (l : List UInt8) (at_ : Nat) (err n : Int) (h : IsB w v l) (hat : at_ ≤ l.length) (hb : l.length ≤ 140737488355328) (hn : -9223372036854775808 ≤ n ∧ n ≤ 9223372036854775807) :
    Calls Try.prog 15 #[.agg #[v, .int .i64 (at_ : Int), .int .i64 err], .agg #[.int .i64 0, .int .i64 n]] w
      fun e w' => ∃ vt, e = .returned (.tuple #[.agg #[v, .int .i64 ((rNext l at_ err 1).1 : Int), .int .i64 (rNext l at_ err 1).2], vt]) ∧ IsTold w' vt 0 (rTake l at_ err 1) ∧ Ext w w' := by
  obtain ⟨ao, cap, rfl, b1, m1, z1, g1⟩ := h.opened
  clear g1 z1
  obtain ⟨n0, n1⟩ := hn
  by_cases he : err = 0
  · subst he
    by_cases hs : (l.length : Int) - at_ < 1
    · rw [(rd_short (by omega) hs).1, (rd_short (by omega) hs).2]
      go_enter Try.func15, Try.ntmps15
      go_wp2
      go_returns
      refine ⟨_, rfl, ⟨_, rfl, by simpa using IsB.nil _⟩, ?_⟩
      repeat' (first | exact Ext.refl _ | refine Ext.alloc ?_ _ | refine Ext.drew ?_)
    · have hcut := h.cut at_ (at_ + 1) (by omega) (by omega)
      rw [show at_ + 1 - at_ = 1 from by omega] at hcut
      have hr := rd_ok (l := l) (at_ := at_) (m := 1) (by omega)
      simp only [Int.cast_ofNat_Int] at hr
      rw [hr.1, hr.2]
      have Hcut := Lib.hid hcut
      clear hcut hr
      go_enter Try.func15, Try.ntmps15
      have hB : IsB w (.slice (ao.map fun x => x.add at_) 1 (cap - at_)) ((l.drop at_).take 1) := by have h := Hcut.out; rw [if_neg (by omega), Nat.mul_one] at h; exact h
      have hlen : ((l.drop at_).take 1).length ≤ 140737488355328 := by simp; omega
      generalize (l.drop at_).take 1 = t at *
      go_upto_region 21 with fail
      go_region_with (go_at_call 29; refine Calls.mono (refNumber _ _ t (hB.ext (by repeat' (first | exact Ext.refl _ | refine Ext.alloc ?_ _ | refine Ext.drew ?_))) hlen) ?_; rintro e w' ⟨rfl, rfl⟩)
      all_goals
        go_wp2
        go_returns
        refine ⟨_, rfl, ⟨_, rfl, by simpa using IsB.nil _⟩, ?_⟩
        repeat' (first | exact Ext.refl _ | refine Ext.alloc ?_ _ | refine Ext.drew ?_)
  · have he' : (err != 0) = true := by simpa using he
    rw [(rd_err he).1, (rd_err he).2]
    go_enter Try.func15, Try.ntmps15
    go_wp2
    go_returns
    refine ⟨_, rfl, ⟨_, rfl, by simpa using IsB.nil _⟩, ?_⟩
    repeat' (first | exact Ext.refl _ | refine Ext.alloc ?_ _ | refine Ext.drew ?_)

set_option maxHeartbeats 2000000 in
set_option maxRecDepth 100000 in
theorem refDo1 (w : World) (v : Value) (l : List UInt8) (at_ : Nat) (err n : Int) (h : IsB w v l) (hat : at_ ≤ l.length) (hb : l.length ≤ 140737488355328) (hn : -9223372036854775808 ≤ n ∧ n ≤ 9223372036854775807) :
    Calls Try.prog 15 #[.agg #[v, .int .i64 (at_ : Int), .int .i64 err], .agg #[.int .i64 1, .int .i64 n]] w
      fun e w' => ∃ vt, e = .returned (.tuple #[.agg #[v, .int .i64 ((rNext l at_ err 2).1 : Int), .int .i64 (rNext l at_ err 2).2], vt]) ∧ IsTold w' vt 1 (rTake l at_ err 2) ∧ Ext w w' := by
  obtain ⟨ao, cap, rfl, b1, m1, z1, g1⟩ := h.opened
  clear g1 z1
  obtain ⟨n0, n1⟩ := hn
  by_cases he : err = 0
  · subst he
    by_cases hs : (l.length : Int) - at_ < 2
    · rw [(rd_short (by omega) hs).1, (rd_short (by omega) hs).2]
      go_enter Try.func15, Try.ntmps15
      go_wp2
      go_returns
      refine ⟨_, rfl, ⟨_, rfl, by simpa using IsB.nil _⟩, ?_⟩
      repeat' (first | exact Ext.refl _ | refine Ext.alloc ?_ _ | refine Ext.drew ?_)
    · have hcut := h.cut at_ (at_ + 2) (by omega) (by omega)
      rw [show at_ + 2 - at_ = 2 from by omega] at hcut
      have hr := rd_ok (l := l) (at_ := at_) (m := 2) (by omega)
      simp only [Int.cast_ofNat_Int] at hr
      rw [hr.1, hr.2]
      have Hcut := Lib.hid hcut
      clear hcut hr
      go_enter Try.func15, Try.ntmps15
      have hB : IsB w (.slice (ao.map fun x => x.add at_) 2 (cap - at_)) ((l.drop at_).take 2) := by have h := Hcut.out; rw [if_neg (by omega), Nat.mul_one] at h; exact h
      have hlen : ((l.drop at_).take 2).length ≤ 140737488355328 := by simp; omega
      generalize (l.drop at_).take 2 = t at *
      go_upto_region 21 with fail
      go_region_with (go_at_call 29; refine Calls.mono (refNumber _ _ t (hB.ext (by repeat' (first | exact Ext.refl _ | refine Ext.alloc ?_ _ | refine Ext.drew ?_))) hlen) ?_; rintro e w' ⟨rfl, rfl⟩)
      all_goals
        go_wp2
        go_returns
        refine ⟨_, rfl, ⟨_, rfl, by simpa using IsB.nil _⟩, ?_⟩
        repeat' (first | exact Ext.refl _ | refine Ext.alloc ?_ _ | refine Ext.drew ?_)
  · have he' : (err != 0) = true := by simpa using he
    rw [(rd_err he).1, (rd_err he).2]
    go_enter Try.func15, Try.ntmps15
    go_wp2
    go_returns
    refine ⟨_, rfl, ⟨_, rfl, by simpa using IsB.nil _⟩, ?_⟩
    repeat' (first | exact Ext.refl _ | refine Ext.alloc ?_ _ | refine Ext.drew ?_)

set_option maxHeartbeats 2000000 in
set_option maxRecDepth 100000 in
theorem refDo2 (w : World) (v : Value) (l : List UInt8) (at_ : Nat) (err n : Int) (h : IsB w v l) (hat : at_ ≤ l.length) (hb : l.length ≤ 140737488355328) (hn : -9223372036854775808 ≤ n ∧ n ≤ 9223372036854775807) :
    Calls Try.prog 15 #[.agg #[v, .int .i64 (at_ : Int), .int .i64 err], .agg #[.int .i64 2, .int .i64 n]] w
      fun e w' => ∃ vt, e = .returned (.tuple #[.agg #[v, .int .i64 ((rNext l at_ err 4).1 : Int), .int .i64 (rNext l at_ err 4).2], vt]) ∧ IsTold w' vt 2 (rTake l at_ err 4) ∧ Ext w w' := by
  obtain ⟨ao, cap, rfl, b1, m1, z1, g1⟩ := h.opened
  clear g1 z1
  obtain ⟨n0, n1⟩ := hn
  by_cases he : err = 0
  · subst he
    by_cases hs : (l.length : Int) - at_ < 4
    · rw [(rd_short (by omega) hs).1, (rd_short (by omega) hs).2]
      go_enter Try.func15, Try.ntmps15
      go_wp2
      go_returns
      refine ⟨_, rfl, ⟨_, rfl, by simpa using IsB.nil _⟩, ?_⟩
      repeat' (first | exact Ext.refl _ | refine Ext.alloc ?_ _ | refine Ext.drew ?_)
    · have hcut := h.cut at_ (at_ + 4) (by omega) (by omega)
      rw [show at_ + 4 - at_ = 4 from by omega] at hcut
      have hr := rd_ok (l := l) (at_ := at_) (m := 4) (by omega)
      simp only [Int.cast_ofNat_Int] at hr
      rw [hr.1, hr.2]
      have Hcut := Lib.hid hcut
      clear hcut hr
      go_enter Try.func15, Try.ntmps15
      have hB : IsB w (.slice (ao.map fun x => x.add at_) 4 (cap - at_)) ((l.drop at_).take 4) := by have h := Hcut.out; rw [if_neg (by omega), Nat.mul_one] at h; exact h
      have hlen : ((l.drop at_).take 4).length ≤ 140737488355328 := by simp; omega
      generalize (l.drop at_).take 4 = t at *
      go_upto_region 21 with fail
      go_region_with (go_at_call 29; refine Calls.mono (refNumber _ _ t (hB.ext (by repeat' (first | exact Ext.refl _ | refine Ext.alloc ?_ _ | refine Ext.drew ?_))) hlen) ?_; rintro e w' ⟨rfl, rfl⟩)
      all_goals
        go_wp2
        go_returns
        refine ⟨_, rfl, ⟨_, rfl, by simpa using IsB.nil _⟩, ?_⟩
        repeat' (first | exact Ext.refl _ | refine Ext.alloc ?_ _ | refine Ext.drew ?_)
  · have he' : (err != 0) = true := by simpa using he
    rw [(rd_err he).1, (rd_err he).2]
    go_enter Try.func15, Try.ntmps15
    go_wp2
    go_returns
    refine ⟨_, rfl, ⟨_, rfl, by simpa using IsB.nil _⟩, ?_⟩
    repeat' (first | exact Ext.refl _ | refine Ext.alloc ?_ _ | refine Ext.drew ?_)

set_option maxHeartbeats 2000000 in
set_option maxRecDepth 100000 in
theorem refDo3 (w : World) (v : Value) (l : List UInt8) (at_ : Nat) (err n : Int) (h : IsB w v l) (hat : at_ ≤ l.length) (hb : l.length ≤ 140737488355328) (hn : -9223372036854775808 ≤ n ∧ n ≤ 9223372036854775807) :
    Calls Try.prog 15 #[.agg #[v, .int .i64 (at_ : Int), .int .i64 err], .agg #[.int .i64 3, .int .i64 n]] w
      fun e w' => ∃ vt, e = .returned (.tuple #[.agg #[v, .int .i64 ((rNext l at_ err 8).1 : Int), .int .i64 (rNext l at_ err 8).2], vt]) ∧ IsTold w' vt 3 (rTake l at_ err 8) ∧ Ext w w' := by
  obtain ⟨ao, cap, rfl, b1, m1, z1, g1⟩ := h.opened
  clear g1 z1
  obtain ⟨n0, n1⟩ := hn
  by_cases he : err = 0
  · subst he
    by_cases hs : (l.length : Int) - at_ < 8
    · rw [(rd_short (by omega) hs).1, (rd_short (by omega) hs).2]
      go_enter Try.func15, Try.ntmps15
      go_wp2
      go_returns
      refine ⟨_, rfl, ⟨_, rfl, by simpa using IsB.nil _⟩, ?_⟩
      repeat' (first | exact Ext.refl _ | refine Ext.alloc ?_ _ | refine Ext.drew ?_)
    · have hcut := h.cut at_ (at_ + 8) (by omega) (by omega)
      rw [show at_ + 8 - at_ = 8 from by omega] at hcut
      have hr := rd_ok (l := l) (at_ := at_) (m := 8) (by omega)
      simp only [Int.cast_ofNat_Int] at hr
      rw [hr.1, hr.2]
      have Hcut := Lib.hid hcut
      clear hcut hr
      go_enter Try.func15, Try.ntmps15
      have hB : IsB w (.slice (ao.map fun x => x.add at_) 8 (cap - at_)) ((l.drop at_).take 8) := by have h := Hcut.out; rw [if_neg (by omega), Nat.mul_one] at h; exact h
      have hlen : ((l.drop at_).take 8).length ≤ 140737488355328 := by simp; omega
      generalize (l.drop at_).take 8 = t at *
      go_upto_region 21 with fail
      go_region_with (go_at_call 29; refine Calls.mono (refNumber _ _ t (hB.ext (by repeat' (first | exact Ext.refl _ | refine Ext.alloc ?_ _ | refine Ext.drew ?_))) hlen) ?_; rintro e w' ⟨rfl, rfl⟩)
      all_goals
        go_wp2
        go_returns
        refine ⟨_, rfl, ⟨_, rfl, by simpa using IsB.nil _⟩, ?_⟩
        repeat' (first | exact Ext.refl _ | refine Ext.alloc ?_ _ | refine Ext.drew ?_)
  · have he' : (err != 0) = true := by simpa using he
    rw [(rd_err he).1, (rd_err he).2]
    go_enter Try.func15, Try.ntmps15
    go_wp2
    go_returns
    refine ⟨_, rfl, ⟨_, rfl, by simpa using IsB.nil _⟩, ?_⟩
    repeat' (first | exact Ext.refl _ | refine Ext.alloc ?_ _ | refine Ext.drew ?_)

set_option maxHeartbeats 2000000 in
set_option maxRecDepth 100000 in
theorem refDo4 (w : World) (v : Value) (l : List UInt8) (at_ : Nat) (err n : Int) (h : IsB w v l) (hat : at_ ≤ l.length) (hb : l.length ≤ 140737488355328) (hn : -9223372036854775808 ≤ n ∧ n ≤ 9223372036854775807) :
    Calls Try.prog 15 #[.agg #[v, .int .i64 (at_ : Int), .int .i64 err], .agg #[.int .i64 4, .int .i64 n]] w
      fun e w' => ∃ vt, e = .returned (.tuple #[.agg #[v, .int .i64 ((rNext l at_ err n).1 : Int), .int .i64 (rNext l at_ err n).2], vt]) ∧ IsTold w' vt 4 (rTake l at_ err n) ∧ Ext w w' := by
  obtain ⟨ao, cap, rfl, b1, m1, z1, g1⟩ := h.opened
  clear g1 z1
  obtain ⟨n0, n1⟩ := hn
  by_cases he : err = 0
  · subst he
    by_cases hneg : n < 0
    · rw [(rd_neg hneg).1, (rd_neg hneg).2]
      go_enter Try.func15, Try.ntmps15
      go_wp2
      go_returns
      refine ⟨_, rfl, ⟨_, rfl, by simpa using IsB.nil _⟩, ?_⟩
      repeat' (first | exact Ext.refl _ | refine Ext.alloc ?_ _ | refine Ext.drew ?_)
    obtain ⟨n, rfl⟩ : ∃ m : Nat, n = m := ⟨n.toNat, by omega⟩
    by_cases hs : (l.length : Int) - at_ < n
    · rw [(rd_short hneg hs).1, (rd_short hneg hs).2]
      go_enter Try.func15, Try.ntmps15
      go_wp2
      go_returns
      refine ⟨_, rfl, ⟨_, rfl, by simpa using IsB.nil _⟩, ?_⟩
      repeat' (first | exact Ext.refl _ | refine Ext.alloc ?_ _ | refine Ext.drew ?_)
    · have hcut := h.cut at_ (at_ + n) (by omega) (by omega)
      rw [show at_ + n - at_ = n from by omega] at hcut
      have hr := rd_ok (l := l) (at_ := at_) (m := n) (by omega)
      skip
      rw [hr.1, hr.2]
      have Hcut := Lib.hid hcut
      clear hcut hr
      go_enter Try.func15, Try.ntmps15
      go_wp2
      all_goals
        go_returns
        refine ⟨_, rfl, ⟨_, rfl, ?_⟩, ?_⟩
        · refine IsB.ext (w := w) ?_ (by repeat' (first | exact Ext.refl _ | refine Ext.alloc ?_ _ | refine Ext.drew ?_))
          have hk := Hcut.out
          simpa [*] using hk
        · repeat' (first | exact Ext.refl _ | refine Ext.alloc ?_ _ | refine Ext.drew ?_)
  · have he' : (err != 0) = true := by simpa using he
    rw [(rd_err he).1, (rd_err he).2]
    go_enter Try.func15, Try.ntmps15
    go_wp2
    go_returns
    refine ⟨_, rfl, ⟨_, rfl, by simpa using IsB.nil _⟩, ?_⟩
    repeat' (first | exact Ext.refl _ | refine Ext.alloc ?_ _ | refine Ext.drew ?_)

end Go.Proofs.Ytkaadagffkgkdaa
