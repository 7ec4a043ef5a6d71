/-
 Plain: the data that stand in words. No program in sight.
-/
import Derived.Test.YtfjmlfbohenmfaaGreatDtModelq
import Derived.Test.YtfjmlfbohenmfaaGreatLexWordsPq
namespace Go.Proofs.YtfjmlfbohenmfaaGreat
namespace Rd
open Dt Lx
end Rd
end Go.Proofs.YtfjmlfbohenmfaaGreat
