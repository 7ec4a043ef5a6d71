/-
 Plain laws on fixnums: powers, roots, folds. No program in sight.
-/
import Derived.Test.YtcopdfihaheplaaFixWalks
namespace Go.Proofs.Ytcopdfihaheplaa
open Go.RowKit
namespace Fx
theorem fitsV_ok {n : Int} (h : isF n = true) : fitsV n = (n, 0) := by simp [fitsV, h]
theorem fitsV_no {n : Int} (h : isF n = false) : fitsV n = (0, 10) := by simp [fitsV, h]
theorem two_comm (f : Int → Int → Int × Int) (h : ∀ a b, f a b = f b a) (a b : Int) : two f a b = two f b a := by
 unfold two
 rw [Bool.and_comm, h]
theorem add_comm (a b : Int) : add a b = add b a := two_comm _ (fun a b => by rw [Int.add_comm]) a b
theorem mul_comm (a b : Int) : mul a b = mul b a := two_comm _ (fun a b => by rw [Int.mul_comm]) a b
end Fx
end Go.Proofs.Ytcopdfihaheplaa
