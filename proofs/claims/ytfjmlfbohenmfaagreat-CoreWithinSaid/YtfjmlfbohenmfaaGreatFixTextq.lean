/-
 The walk of fix.Text and of shuttleref01's Text: a fixnum's text.
-/
import Derived.Test.YtfjmlfbohenmfaaGreatFixPlainq
import Derived.Laws.BytesArg
namespace Go.Proofs.YtfjmlfbohenmfaaGreat
open Go.RowKit
namespace Fx
end Fx
end Go.Proofs.YtfjmlfbohenmfaaGreat
