/- The tables are the roots of primes. -/
import Derived.Test.YtfnmfnihgocheaaDoorPrL
import Derived.Test.YtfnmfnihgocheaaDoorShB
namespace Go.Proofs.YtfnmfnihgocheaaDoor

theorem rootsK : (pl 312).map (fun p => (rootN p 3 : Int)) = kTab := by decide +kernel
theorem rootsS : (pl 20).map (fun p => (rootN p 2 : Int)) = startS.l := by decide +kernel
end Go.Proofs.YtfnmfnihgocheaaDoor
