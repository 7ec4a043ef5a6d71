/-
 The walk of bare.
-/
import Derived.Test.YtcopdfihaheplaaLexSame
namespace Go.Proofs.Ytcopdfihaheplaa
open Go.RowKit Go.Sort
namespace Lx
end Lx
end Go.Proofs.Ytcopdfihaheplaa
