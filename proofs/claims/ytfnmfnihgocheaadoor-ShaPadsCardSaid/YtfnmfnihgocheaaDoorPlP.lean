/- The walk of the reference's Primes. -/
import Derived.Test.YtfnmfnihgocheaaDoorPlR
namespace Go.Proofs.YtfnmfnihgocheaaDoor
open Go.RowKit
set_option linter.unusedVariables false
set_option linter.unusedSimpArgs false

def pc (x : Nat) : Value := .int .u64 (x : Int)
theorem infoU64 : (Tryd.prog.info? 54).map (fun i => (i.zero, i.size, i.bytes)) = some (some (.int .u64 0), 1, 8) := by kernel_rfl
theorem tyU64 : ETy Tryd.prog 60 54 (.int .u64 0) 1 8 := ⟨Tryd.underlying60, info_parts infoU64, rfl, by decide⟩

set_option maxHeartbeats 8000000 in
set_option maxRecDepth 100000 in
theorem refPrimes (w : World) (n X : Nat) (hX : (pl X).length = n) (h2 : 2 ≤ X) (hXl : X ≤ 1000) :
    Calls Tryd.prog 37 #[.int .i64 (n : Int)] w fun e w' => ∃ v, e = .returned v ∧ w'.ownsRow w.heap.size 54 1 v n ((pl X).map pc) ∧ Ext w w' := by
  have hnX : n ≤ X := by rw [← hX]; exact pl_len_le X
  have HX := Lib.hid hX
  clear hX
  go_enter Tryd.func37, Tryd.ntmps37
  go_wp2_with fail
  go_loopg [3, 4] X (fun g s3 s4 wr => ∃ x : Nat, 2 ≤ x ∧ x ≤ X ∧ X - x ≤ g ∧ s4 = .int .u64 (x : Int) ∧ wr.ownsRow w.heap.size 54 1 s3 (pl x).length ((pl x).map pc) ∧ Ext w wr)
  case atStart => exact ⟨2, by omega, h2, by omega, rfl, World.ownsRow_nil _ _ _ _, Ext.refl _⟩
  case round =>
    obtain ⟨x, hx2, hxX, hg, rfl, own, xr⟩ := hrel
    have hsl := IsSl.of_owns own
    obtain ⟨hlen, ao, cap, rfl, _, _, _, _⟩ := hsl
    have hll := pl_len_le x
    have hpn := pl_next hx2
    have HPN := Lib.hid hpn
    have hall : n ≤ (pl x).length → pl x = pl X := fun h => pl_all hxX HX.out h
    have HA := Lib.hid hall
    clear hpn hall hlen
    generalize hL : (pl x).length = L at *
    by_cases hln : L < n
    · have hlt : x < X := by
        rcases Nat.lt_or_ge x X with h | h
        · exact h
        · have e : x = X := by omega
          rw [e, HX.out] at hL
          omega
      have hln' : (L : Int) < (n : Int) := by omega
      have hw1 : IntKind.u64.wrap ((x : Int) + 1) = ((x + 1 : Nat) : Int) := by rw [IntKind.wrap_u64]; omega
      have OWN := Lib.hid own
      clear own
      go_wp2_with fail
      go_loopg [5, 6] x (fun g s5 s6 wq => ∃ d : Nat, 2 ≤ d ∧ d ≤ x ∧ x - d ≤ g ∧ s6 = .int .u64 (d : Int) ∧ s5 = .bool (noDiv x d) ∧ wq = wr)
      case atStart => exact ⟨2, by omega, hx2, by omega, rfl, rfl, rfl⟩
      case round =>
        obtain ⟨d, hd2, hdx, hgd, rfl, rfl, rfl⟩ := hrel
        by_cases hdlt : d < x
        · have hd' : (d : Int) < (x : Int) := by omega
          have hd0 : ¬ (d : Int) = 0 := by omega
          have hnd := noDiv_next (x := x) hd2
          have hw2 : IntKind.u64.wrap ((d : Int) + 1) = ((d + 1 : Nat) : Int) := by rw [IntKind.wrap_u64]; omega
          generalize noDiv x d = b at *
          by_cases hm : x % d = 0
          · have hm1 : (x : Int) % (d : Int) = 0 := by rw [← Int.natCast_emod, hm]; rfl
            have hm' : ((x : Int) % (d : Int) == 0) = true := by rw [hm1]; rfl
            rw [hm] at hnd
            have HND := Lib.hid hnd
            clear hnd hm
            go_wp2_with fail
            go_roundg (x - (d + 1))
            case measure => omega
            case rel => exact ⟨d + 1, by omega, by omega, by omega, rfl, by rw [HND.out]; simp, rfl⟩
          · have hm2 : ¬ (x : Int) % (d : Int) = 0 := by rw [← Int.natCast_emod]; omega
            have hm' : ((x : Int) % (d : Int) == 0) = false := by simpa using hm2
            have hb : (x % d != 0) = true := by simpa using hm
            rw [hb, Bool.and_true] at hnd
            have HND := Lib.hid hnd
            clear hnd hm hb
            go_wp2_with fail
            go_roundg (x - (d + 1))
            case measure => omega
            case rel => exact ⟨d + 1, by omega, by omega, by omega, rfl, by rw [HND.out], rfl⟩
        · obtain rfl : d = x := by omega
          have own := OWN.out
          cases hp : noDiv d d with
          | true =>
            have HP := Lib.hid hp
            go_wp2_with (at_builtin; refine wp_app1 tyU64 rfl _ _ rfl w.heap.size _ L _ _ _ own (by rfl) (by rfl) rfl (by omega) (by omega) xr.size ?_; intro v1 w1 own1 gr1)
            go_roundg (X - (d + 1))
            case measure => omega
            case rel =>
              refine ⟨d + 1, by omega, by omega, by omega, rfl, ?_, own_base (own.alloc _) gr1 (xr.alloc _) (Nat.le_refl _)⟩
              rw [HPN.out, HP.out, if_pos rfl, List.length_append, hL, List.map_append]
              exact own1
          | false =>
            have HP := Lib.hid hp
            go_wp2_with fail
            go_roundg (X - (d + 1))
            case measure => omega
            case rel =>
              refine ⟨d + 1, by omega, by omega, by omega, rfl, ?_, xr⟩
              rw [HPN.out, HP.out, if_neg (by decide), List.append_nil, hL]
              exact own
    · have hln' : ¬ (L : Int) < (n : Int) := by omega
      have e := HA.out (by omega)
      have OWN := Lib.hid own
      have HE := Lib.hid e
      clear own e
      go_wp2
      go_ret
      refine ⟨_, rfl, ?_, xr⟩
      have := OWN.out
      have hLn : L = n := by rw [← hL, HE.out, HX.out]
      rw [HE.out, hLn] at this
      rw [hLn]
      exact this
end Go.Proofs.YtfnmfnihgocheaaDoor
