/- Walks of sha's turned, right and of the reference's Right. -/
import Derived.Test.YtpadfabjihaapaaGreatDoorOctF
import Derived.Deep.QuietTactic
namespace Go.Proofs.YtpadfabjihaapaaGreatDoor
open Go.RowKit
set_option linter.unusedVariables false

/-- A number of 32 bits turned right, as the model has it. -/
def rotr (n : Nat) (x : Int) : Int := bits BinOp.or IntKind.u32 (x / 2 ^ n) (x * 2 ^ (32 - n) % 4294967296)

set_option maxHeartbeats 1000000 in
theorem shaTurned (w : World) (x : Int) (n : Nat) (hn : 0 < n) (hn2 : n < 32) :
    Calls Tryz.prog 161 #[.int .u32 x, .int .i64 n, .int .i64 32] w fun e w' => e = .returned (.int .u32 (rotr n x)) ∧ ∃ q, w' = w.drewN q := by
  go_enter Tryz.func161, Tryz.ntmps161
  go_wp2_with fail
  go_quiet (fail)
  go_wp2
  go_ret
  exact ⟨rfl, _, rfl⟩
set_option maxHeartbeats 1000000 in
theorem shaRight (w : World) (x : Int) (n : Nat) (hn : 0 < n) (hn2 : n < 32) :
    Calls Tryz.prog 158 #[.int .i64 n, .int .u32 x] w fun e w' => e = .returned (.int .u32 (rotr n x)) ∧ ∃ q, w' = w.drewN q := by
  go_enter Tryz.func158, Tryz.ntmps158
  go_wp2_with fail
  refine Calls.mono (shaTurned _ x n hn hn2) ?_
  rintro e w1 ⟨rfl, q, rfl⟩
  go_wp2
  go_ret
  exact ⟨rfl, _, rfl⟩
set_option maxHeartbeats 1000000 in
theorem refRightN (w : World) (x : Int) (n : Nat) (hn : 0 < n) (hn2 : n < 32) :
    Calls Tryz.prog 147 #[.int .u64 n, .int .u32 x] w fun e w' => e = .returned (.int .u32 (rotr n x)) ∧ w' = w := by
  go_enter Tryz.func147, Tryz.ntmps147
  go_wp2
  go_ret
  exact ⟨rfl, rfl⟩
end Go.Proofs.YtpadfabjihaapaaGreatDoor
