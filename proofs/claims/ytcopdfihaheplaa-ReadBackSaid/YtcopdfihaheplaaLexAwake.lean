/-
 The walk of the laws' awake.
-/
import Derived.Test.YtcopdfihaheplaaLexWords
namespace Go.Proofs.Ytcopdfihaheplaa
open Go.RowKit Go.Sort
namespace Lx
end Lx
end Go.Proofs.Ytcopdfihaheplaa
