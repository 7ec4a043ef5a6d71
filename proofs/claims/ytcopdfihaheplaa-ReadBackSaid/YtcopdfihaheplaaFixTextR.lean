/-
 The walk of shuttleref01.Text.
-/
import Derived.Test.YtcopdfihaheplaaFixParse
import Derived.Test.YtcopdfihaheplaaFixRef
import Derived.Laws.Concat
namespace Go.Proofs.Ytcopdfihaheplaa
open Go.RowKit
namespace Fx
theorem digF_len : ∀ (f n : Nat), (digF f n).length ≤ f + 1
 | 0, n => by simp [digF]
 | f + 1, n => by
  unfold digF
  split
  ·simp
  ·have := digF_len f (n / 10)
   simp only [List.length_append, List.length_singleton]
   omega
end Fx
end Go.Proofs.Ytcopdfihaheplaa
