/-
 The walk of the reference's str: a string.
-/
import Derived.Test.YtfjmlfbohenmfaaGreatCoreBBM6
import Derived.Test.YtfjmlfbohenmfaaGreatCoreBBM3
namespace Go.Proofs.YtfjmlfbohenmfaaGreat
open Go.RowKit Go.Sort
namespace Lx
theorem put5_bel{n R:Nat}{w a:World}(h:Below n w a)(hR:n≤R)(k a' z m:Int)(x:ByteArray):Below n w (put5 a R k a' z m x):=
 ((((h.setCell (p:=⟨R,0,none⟩) hR _).setCell (p:=⟨R,1,none⟩) hR _).setCell (p:=⟨R,2,none⟩) hR _).setCell (p:=⟨R,3,none⟩) hR _).setCell (p:=⟨R,4,none⟩) hR _
end Lx
end Go.Proofs.YtfjmlfbohenmfaaGreat
