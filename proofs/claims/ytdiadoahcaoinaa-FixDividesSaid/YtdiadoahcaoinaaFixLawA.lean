/-
  The walks of the laws FixSums, FixDivides, FixGreatest, FixParts.
-/
import Derived.Test.YtdiadoahcaoinaaFixText
import Derived.Test.YtdiadoahcaoinaaFixRef
namespace Go.Proofs.Ytdiadoahcaoinaa
open Go.RowKit
theorem b2 (p q : Bool) (h : p = q) : Ending.returned (.bool p) = .returned (.bool q) := by rw [h]

theorem FixSums_walk (a b : Int) (w : World) (_ : (Lit.int .i64 a).wf = true) (_ : (Lit.int .i64 b).wf = true) :
    Calls Try.prog 4 #[.int .i64 a, .int .i64 b] w fun e w' => e = .returned (.bool true) ∧ Below w.heap.size w w' := by
  go_enter Try.func4, Try.ntmps4
  go_wp2_with fail
  refine (Add_any a b _).mono ?_; rintro e w1 ⟨rfl, hb1⟩; unfold Fx.R
  go_wp2_with fail
  refine (rAdd_any a b _).mono ?_; rintro e w2 ⟨rfl, hb2⟩; unfold Fx.R
  go_wp2_with fail
  refine (Sub_any a b _).mono ?_; rintro e w3 ⟨rfl, hb3⟩; unfold Fx.R
  go_wp2_with fail
  refine (rSub_any a b _).mono ?_; rintro e w4 ⟨rfl, hb4⟩; unfold Fx.R
  go_wp2_with fail
  refine (Neg_any a _).mono ?_; rintro e w5 ⟨rfl, hb5⟩; unfold Fx.R
  go_wp2_with fail
  refine (rNeg_any a _).mono ?_; rintro e w6 ⟨rfl, hb6⟩; unfold Fx.R
  go_wp2_with fail
  refine (awake_any _).mono ?_; rintro e w7 ⟨rfl, hb7⟩
  go_wp2_with fail
  refine (In_any a _).mono ?_; rintro e w8 ⟨rfl, rfl⟩
  go_wp2_with fail
  refine (rIn_any a _).mono ?_; rintro e w8 ⟨rfl, rfl⟩
  have hq : (Fx.isF a == Fx.isF a) = true := by simp
  go_wp2_with fail
  refine (same_any _ _ _ _ _ rfl rfl).mono ?_; rintro e w8 ⟨rfl, rfl⟩
  go_wp2_with fail
  refine (same_any _ _ _ _ _ rfl rfl).mono ?_; rintro e w8 ⟨rfl, rfl⟩
  go_wp2_with fail
  refine (same_any _ _ _ _ _ rfl rfl).mono ?_; rintro e w8 ⟨rfl, rfl⟩
  go_wp2
  go_ret
  exact ⟨rfl, bchain (bchain (bchain (bchain (bchain (bchain hb1 hb2) hb3) hb4) hb5) hb6) hb7⟩

end Go.Proofs.Ytdiadoahcaoinaa
