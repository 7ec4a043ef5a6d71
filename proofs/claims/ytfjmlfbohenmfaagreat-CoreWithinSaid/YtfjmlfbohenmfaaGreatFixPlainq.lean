/-
 Plain laws on fixnums: powers, roots, folds. No program in sight.
-/
import Derived.Test.YtfjmlfbohenmfaaGreatFixWalksq
namespace Go.Proofs.YtfjmlfbohenmfaaGreat
open Go.RowKit
namespace Fx
theorem fitsV_ok{n:Int}(h:isF n=true):fitsV n=(n,0):=by simp[fitsV,h]
end Fx
end Go.Proofs.YtfjmlfbohenmfaaGreat
