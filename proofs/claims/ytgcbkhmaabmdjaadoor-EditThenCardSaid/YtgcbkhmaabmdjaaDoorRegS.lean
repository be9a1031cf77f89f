/- A drawn region under whatever S. Over any program. -/
import Derived.Test.YtgcbkhmaabmdjaaDoorReg
namespace Go.Proofs.YtgcbkhmaabmdjaaDoor
open Go.RowKit
section
variable {P : Program}
theorem wp_region_S {id : Nat} {ops : Array Oper} {Q : Exit → Act → World → Prop} {a : Act} {w : World} (S : World → Prop) (hm : P.follows .mixedOrders = true) (hS : ∀ w', Ext w w' → S w')
    (h : ∀ w', (∃ q, w' = w.drewN q) → Ext w w' → S w' → wpAnyH P .any ops (NoPanic Q) S ops.size (Array.replicate ops.size false) a w') : (Code.region id ops true).wp P Q a w :=
  wp_region_noPanic (wp_region_held_drew (S := S) hm (hS _ ((Ext.refl w).drew)) fun k => h w.drew ⟨1, rfl⟩ ((Ext.refl w).drew) k)

end
end Go.Proofs.YtgcbkhmaabmdjaaDoor
