/-
 The walks of the reference's small functions.
-/
import Derived.Test.YtcopdfihaheplaaLexGap2
namespace Go.Proofs.Ytcopdfihaheplaa
open Go.RowKit
namespace Lx
theorem low_int (c : UInt8) : low c = (decide (97 ≤ (c.toNat : Int)) && decide ((c.toNat : Int) ≤ 122)) := by
 unfold low
 congr 1
 ·exact decide_eq_decide.2 (by omega)
 ·exact decide_eq_decide.2 (by omega)
end Lx
end Go.Proofs.Ytcopdfihaheplaa
