/-
 The walks of shuttleref01 (the document's answer of layer 1): what each function returns.
-/
import Derived.Test.YtcopdfihaheplaaFixWalks
namespace Go.Proofs.Ytcopdfihaheplaa
open Go.RowKit
theorem rIn_any (n : Int) (w : World) :
  Calls Try.prog 93 #[.int .i64 n] w fun e w' => e = .returned (.bool (Fx.isF n)) ∧ w = w' := by
 by_cases h : -1152921504606846976 ≤ n
 ·go_enter Try.func93, Try.ntmps93
  go_wp2
  go_ret
  exact ⟨by simp [Fx.isF, h], rfl⟩
 ·go_enter Try.func93, Try.ntmps93
  go_wp2
  go_ret
  exact ⟨by simp [Fx.isF]; omega, rfl⟩
theorem got_any (n : Int) (w : World) :
  Calls Try.prog 83 #[.int .i64 n] w fun e w' => e = .returned (.tuple #[.int .i64 (Fx.fitsV n).1, .int .i64 (Fx.fitsV n).2]) ∧ w = w' := by
 cases h : Fx.isF n
 ·have e1 := Lib.hid (show Fx.fitsV n = (0, 10) by simp [Fx.fitsV, h])
  go_enter Try.func83, Try.ntmps83
  go_wp2_with (go_at_call 93; refine (rIn_any _ _).mono ?_; rintro e w' ⟨rfl, rfl⟩)
  go_ret2
  exact ⟨Fx.R_mk e1.out, rfl⟩
 ·have e1 := Lib.hid (show Fx.fitsV n = (n, 0) by simp [Fx.fitsV, h])
  go_enter Try.func83, Try.ntmps83
  go_wp2_with (go_at_call 93; refine (rIn_any _ _).mono ?_; rintro e w' ⟨rfl, rfl⟩)
  go_ret2
  exact ⟨Fx.R_mk e1.out, rfl⟩
namespace Fx
end Fx
end Go.Proofs.Ytcopdfihaheplaa
