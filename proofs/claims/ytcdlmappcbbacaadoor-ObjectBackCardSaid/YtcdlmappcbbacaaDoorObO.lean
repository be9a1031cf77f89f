/- object.Decode, whatever bytes. -/
import Derived.Test.YtcdlmappcbbacaaDoorObN
namespace Go.Proofs.YtcdlmappcbbacaaDoor
open Go.RowKit
theorem objDecode (w : World) (v : Value) (l : List UInt8) (h : IsB w v l) (hb : l.length ≤ 140737488355328) :
    Calls Tryd.prog 15 #[v] w (DecEnd (decP l) w) := by
  by_cases h1 : rN l (0, 0) 1 = 1
  · exact objDecode1 w v l h hb h1
  · by_cases h2 : rN l (0, 0) 1 = 2
    · exact objDecode2 w v l h hb h2
    · by_cases h3 : rN l (0, 0) 1 = 3
      · exact objDecode3 w v l h hb h3
      · exact objDecode0 w v l h hb h1 h2 h3
end Go.Proofs.YtcdlmappcbbacaaDoor
