/-
 The walks of shuttleref01 (the document's answer of layer 1): what each function returns.
-/
import Derived.Test.YtcopdfihaheplaaFixWalks
namespace Go.Proofs.Ytcopdfihaheplaa
open Go.RowKit
theorem rIn_any (n : Int) (w : World) :
  Calls Try.prog 93 #[.int .i64 n] w fun e w' => e = .returned (.bool (Fx.isF n)) ∧ w = w' := by
 by_cases h : -1152921504606846976 ≤ n
 ·go_enter Try.func93, Try.ntmps93
  go_wp2
  go_ret
  exact ⟨by simp [Fx.isF, h], rfl⟩
 ·go_enter Try.func93, Try.ntmps93
  go_wp2
  go_ret
  exact ⟨by simp [Fx.isF]; omega, rfl⟩
namespace Fx
end Fx
end Go.Proofs.Ytcopdfihaheplaa
