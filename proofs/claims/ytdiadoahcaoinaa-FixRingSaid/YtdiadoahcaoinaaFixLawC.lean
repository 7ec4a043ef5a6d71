/-
  The walks of the laws FixParts, FixGreatest, FixRing.
-/
import Derived.Test.YtdiadoahcaoinaaFixText
import Derived.Test.YtdiadoahcaoinaaFixRefB
namespace Go.Proofs.Ytdiadoahcaoinaa
open Go.RowKit

theorem FixParts_walk (a b : Int) (w : World) (_ : (Lit.int .i64 a).wf = true) (_ : (Lit.int .i64 b).wf = true) :
    Calls Try.prog 6 #[.int .i64 a, .int .i64 b] w fun e w' => e = .returned (.bool true) ∧ Below w.heap.size w w' := by
  go_enter Try.func6, Try.ntmps6
  go_wp2_with fail
  refine (Quo_any a b _).mono ?_; rintro e w1 ⟨rfl, hb1⟩; unfold Fx.R
  go_wp2_with fail
  refine (rQuo_any a b _).mono ?_; rintro e w2 ⟨rfl, hb2⟩; unfold Fx.R
  go_wp2_with fail
  refine (Rem_any a b _).mono ?_; rintro e w3 ⟨rfl, hb3⟩; unfold Fx.R
  go_wp2_with fail
  refine (rRem_any a b _).mono ?_; rintro e w4 ⟨rfl, hb4⟩; unfold Fx.R
  go_wp2_with fail
  refine (Mod_any a b _).mono ?_; rintro e w5 ⟨rfl, hb5⟩; unfold Fx.R
  go_wp2_with fail
  refine (rMod_any a b _).mono ?_; rintro e w6 ⟨rfl, hb6⟩; unfold Fx.R
  go_wp2_with fail
  refine (Gcd_any a b _).mono ?_; rintro e w7 ⟨rfl, hb7⟩; unfold Fx.R
  go_wp2_with fail
  refine (rGcd_any a b _).mono ?_; rintro e w8 ⟨rfl, hb8⟩; unfold Fx.R
  go_wp2_with fail
  refine (awake_any _).mono ?_; rintro e w9 ⟨rfl, hb9⟩
  go_wp2_with fail
  refine (same_any _ _ _ _ _ rfl rfl).mono ?_; rintro e w' ⟨rfl, rfl⟩
  go_wp2_with fail
  refine (same_any _ _ _ _ _ rfl rfl).mono ?_; rintro e w' ⟨rfl, rfl⟩
  go_wp2_with fail
  refine (same_any _ _ _ _ _ rfl rfl).mono ?_; rintro e w' ⟨rfl, rfl⟩
  go_wp2_with fail
  refine (same_any _ _ _ _ _ rfl rfl).mono ?_; rintro e w' ⟨rfl, rfl⟩
  go_wp2
  go_ret
  exact ⟨rfl, (bchain (bchain (bchain (bchain (bchain (bchain (bchain (bchain hb1 hb2) hb3) hb4) hb5) hb6) hb7) hb8) hb9)⟩

theorem FixGreatest_err (a b c : Int) (k : Int) (hk : k = 1 ∨ k = 10) (w : World) (H : Hid (∀ w : World, Calls Try.prog 26 #[.int .i64 a, .int .i64 b] w fun e w' => e = .returned (.tuple #[.int .i64 0, .int .i64 k]) ∧ Below w.heap.size w w')) :
    Calls Try.prog 5 #[.int .i64 a, .int .i64 b, .int .i64 c] w fun e w' => e = .returned (.bool true) ∧ Below w.heap.size w w' := by
  have t1 : (k != 0) = true := by simp; omega
  go_enter Try.func5, Try.ntmps5
  go_wp2_with fail
  refine (H.out _).mono ?_; rintro e w1 ⟨rfl, hb1⟩
  go_wp2_with fail
  refine (awake_any _).mono ?_; rintro e w2 ⟨rfl, hb2⟩
  go_wp2_with fail
  refine (awake_any _).mono ?_; rintro e w3 ⟨rfl, hb3⟩
  go_wp2
  go_ret
  exact ⟨rfl, (bchain (bchain hb1 hb2) hb3)⟩

theorem FixGreatest_c0 (a b c : Int) (g : Int) (g0 : 0 < g) (ga : a.tmod g = 0) (gb : b.tmod g = 0) (hc : c = 0) (w : World) (H : Hid (∀ w : World, Calls Try.prog 26 #[.int .i64 a, .int .i64 b] w fun e w' => e = .returned (.tuple #[.int .i64 g, .int .i64 0]) ∧ Below w.heap.size w w')) :
    Calls Try.prog 5 #[.int .i64 a, .int .i64 b, .int .i64 c] w fun e w' => e = .returned (.bool true) ∧ Below w.heap.size w w' := by
  have t1 : (g == 0) = false := by simp; omega
  have t0 : decide (g < 0) = false := by simp; omega
  subst hc
  go_enter Try.func5, Try.ntmps5
  go_wp2_with fail
  refine (H.out _).mono ?_; rintro e w1 ⟨rfl, hb1⟩
  go_wp2_with fail
  refine (awake_any _).mono ?_; rintro e w2 ⟨rfl, hb2⟩
  go_wp2
  go_ret
  exact ⟨rfl, (bchain hb1 hb2)⟩

theorem FixGreatest_ca (a b c : Int) (g : Int) (g0 : 0 < g) (ga : a.tmod g = 0) (gb : b.tmod g = 0) (hc : c ≠ 0) (ha : (a.tmod c != 0) = true) (w : World) (H : Hid (∀ w : World, Calls Try.prog 26 #[.int .i64 a, .int .i64 b] w fun e w' => e = .returned (.tuple #[.int .i64 g, .int .i64 0]) ∧ Below w.heap.size w w')) :
    Calls Try.prog 5 #[.int .i64 a, .int .i64 b, .int .i64 c] w fun e w' => e = .returned (.bool true) ∧ Below w.heap.size w w' := by
  have t1 : (g == 0) = false := by simp; omega
  have t0 : decide (g < 0) = false := by simp; omega
  have t2 : (c == 0) = false := by simpa using hc
  go_enter Try.func5, Try.ntmps5
  go_wp2_with fail
  refine (H.out _).mono ?_; rintro e w1 ⟨rfl, hb1⟩
  go_wp2_with fail
  refine (awake_any _).mono ?_; rintro e w2 ⟨rfl, hb2⟩
  go_wp2
  go_ret
  exact ⟨rfl, (bchain hb1 hb2)⟩

theorem FixGreatest_cb (a b c : Int) (g : Int) (g0 : 0 < g) (ga : a.tmod g = 0) (gb : b.tmod g = 0) (hc : c ≠ 0) (ha : (a.tmod c != 0) = false) (hb : (b.tmod c != 0) = true) (w : World) (H : Hid (∀ w : World, Calls Try.prog 26 #[.int .i64 a, .int .i64 b] w fun e w' => e = .returned (.tuple #[.int .i64 g, .int .i64 0]) ∧ Below w.heap.size w w')) :
    Calls Try.prog 5 #[.int .i64 a, .int .i64 b, .int .i64 c] w fun e w' => e = .returned (.bool true) ∧ Below w.heap.size w w' := by
  have t1 : (g == 0) = false := by simp; omega
  have t0 : decide (g < 0) = false := by simp; omega
  have t2 : (c == 0) = false := by simpa using hc
  go_enter Try.func5, Try.ntmps5
  go_wp2_with fail
  refine (H.out _).mono ?_; rintro e w1 ⟨rfl, hb1⟩
  go_wp2_with fail
  refine (awake_any _).mono ?_; rintro e w2 ⟨rfl, hb2⟩
  go_wp2
  go_ret
  exact ⟨rfl, (bchain hb1 hb2)⟩

theorem FixGreatest_cg (a b c : Int) (g : Int) (g0 : 0 < g) (ga : a.tmod g = 0) (gb : b.tmod g = 0) (hc : c ≠ 0) (ha : (a.tmod c != 0) = false) (hb : (b.tmod c != 0) = false) (hg : (g % c == 0) = true) (w : World) (H : Hid (∀ w : World, Calls Try.prog 26 #[.int .i64 a, .int .i64 b] w fun e w' => e = .returned (.tuple #[.int .i64 g, .int .i64 0]) ∧ Below w.heap.size w w')) :
    Calls Try.prog 5 #[.int .i64 a, .int .i64 b, .int .i64 c] w fun e w' => e = .returned (.bool true) ∧ Below w.heap.size w w' := by
  have t1 : (g == 0) = false := by simp; omega
  have t0 : decide (g < 0) = false := by simp; omega
  have t2 : (c == 0) = false := by simpa using hc
  go_enter Try.func5, Try.ntmps5
  go_wp2_with fail
  refine (H.out _).mono ?_; rintro e w1 ⟨rfl, hb1⟩
  go_wp2_with fail
  refine (awake_any _).mono ?_; rintro e w2 ⟨rfl, hb2⟩
  go_wp2
  go_ret
  exact ⟨rfl, (bchain hb1 hb2)⟩

theorem FixGreatest_zero (a b c : Int) (ha : a = 0) (hb : b = 0) (w : World) (H : Hid (∀ w : World, Calls Try.prog 26 #[.int .i64 a, .int .i64 b] w fun e w' => e = .returned (.tuple #[.int .i64 0, .int .i64 0]) ∧ Below w.heap.size w w')) :
    Calls Try.prog 5 #[.int .i64 a, .int .i64 b, .int .i64 c] w fun e w' => e = .returned (.bool true) ∧ Below w.heap.size w w' := by
  subst ha hb
  go_enter Try.func5, Try.ntmps5
  go_wp2_with fail
  refine (H.out _).mono ?_; rintro e w1 ⟨rfl, hb1⟩
  go_wp2_with fail
  refine (awake_any _).mono ?_; rintro e w2 ⟨rfl, hb2⟩
  go_wp2
  go_ret
  exact ⟨rfl, (bchain hb1 hb2)⟩

theorem FixGreatest_walk (a b c : Int) (w : World) (_ : (Lit.int .i64 a).wf = true) (_ : (Lit.int .i64 b).wf = true) (_ : (Lit.int .i64 c).wf = true) :
    Calls Try.prog 5 #[.int .i64 a, .int .i64 b, .int .i64 c] w fun e w' => e = .returned (.bool true) ∧ Below w.heap.size w w' := by
  have H := fun w => Gcd_any a b w
  cases hab : Fx.isF a && Fx.isF b
  · rw [show Fx.gcd a b = (0, 1) from Fx.two_bad hab] at H
    exact FixGreatest_err a b c 1 (.inl rfl) w H
  obtain ⟨ha, hb⟩ : Fx.isF a = true ∧ Fx.isF b = true := by simpa using hab
  have ba := Fx.isF_bd ha
  have bd := Fx.isF_bd hb
  cases hg : Fx.isF (Int.gcd a b)
  · rw [show Fx.gcd a b = (0, 10) from (Fx.two_ok ha hb).trans (Fx.fitsV_no hg)] at H
    exact FixGreatest_err a b c 10 (.inr rfl) w H
  have bg := Fx.isF_bd hg
  rw [show Fx.gcd a b = (((Int.gcd a b : Nat) : Int), 0) from (Fx.two_ok ha hb).trans (Fx.fitsV_ok hg)] at H
  have da := Int.gcd_dvd_left a b
  have db := Int.gcd_dvd_right a b
  have dc : c ∣ a → c ∣ b → c ∣ ((Int.gcd a b : Nat) : Int) := fun h1 h2 => Int.dvd_coe_gcd h1 h2
  by_cases g0 : Int.gcd a b = 0
  · obtain ⟨h1, h2⟩ := Int.gcd_eq_zero_iff.1 g0
    rw [g0] at H
    exact FixGreatest_zero a b c h1 h2 w H
  have hp : 0 < ((Int.gcd a b : Nat) : Int) := by omega
  generalize ((Int.gcd a b : Nat) : Int) = g at *
  have ga : a.tmod g = 0 := Int.tmod_eq_zero_of_dvd da
  have gb : b.tmod g = 0 := Int.tmod_eq_zero_of_dvd db
  by_cases hc : c = 0
  · exact FixGreatest_c0 a b c g hp ga gb hc w H
  by_cases xa : a.tmod c = 0
  · by_cases xb : b.tmod c = 0
    · exact FixGreatest_cg a b c g hp ga gb hc (by rw [xa]; rfl) (by rw [xb]; rfl)
        (by rw [Int.emod_eq_zero_of_dvd (dc (Int.dvd_of_tmod_eq_zero xa) (Int.dvd_of_tmod_eq_zero xb))]; rfl) w H
    · exact FixGreatest_cb a b c g hp ga gb hc (by rw [xa]; rfl) (by simpa using xb) w H
  · exact FixGreatest_ca a b c g hp ga gb hc (by simpa using xa) w H

theorem FixRing_err (a b c : Int) (k : Int) (hk : k = 1 ∨ k = 10) (w : World)
    (HA1 : Hid (∀ w : World, Calls Try.prog 17 #[.int .i64 a, .int .i64 b] w fun e w' => e = .returned (.tuple #[.int .i64 0, .int .i64 k]) ∧ Below w.heap.size w w'))
    (HA2 : Hid (∀ w : World, Calls Try.prog 17 #[.int .i64 b, .int .i64 a] w fun e w' => e = .returned (.tuple #[.int .i64 0, .int .i64 k]) ∧ Below w.heap.size w w')) :
    Calls Try.prog 9 #[.int .i64 a, .int .i64 b, .int .i64 c] w fun e w' => e = .returned (.bool true) ∧ Below w.heap.size w w' := by
  have hmul1 : (Fx.mul a b).1 = (Fx.mul b a).1 := by rw [Fx.mul_comm]
  have hmul2 : (Fx.mul a b).2 = (Fx.mul b a).2 := by rw [Fx.mul_comm]
  have HM1 := Lib.hid hmul1
  have HM2 := Lib.hid hmul2
  clear hmul1 hmul2
  have t1 : (k == 0) = false := by simp; omega
  have t2 : (k != 0) = true := by simp; omega
  go_enter Try.func9, Try.ntmps9
  go_wp2_with fail
  refine (HA1.out _).mono ?_; rintro e w1 ⟨rfl, hb1⟩
  go_wp2_with fail
  refine (HA2.out _).mono ?_; rintro e w2 ⟨rfl, hb2⟩
  go_wp2_with fail
  refine (Mul_any a b _).mono ?_; rintro e w3 ⟨rfl, hb3⟩; unfold Fx.R
  go_wp2_with fail
  refine (Mul_any b a _).mono ?_; rintro e w4 ⟨rfl, hb4⟩; unfold Fx.R
  go_wp2_with fail
  refine (awake_any _).mono ?_; rintro e w5 ⟨rfl, hb5⟩
  go_wp2_with fail
  refine (same_any _ _ _ _ _ rfl rfl).mono ?_; rintro e w' ⟨rfl, rfl⟩
  go_wp2_with fail
  refine (same_any _ _ _ _ _ HM1.out HM2.out).mono ?_; rintro e w' ⟨rfl, rfl⟩
  go_wp2_with fail
  refine (Mul_any _ _ _).mono ?_; rintro e w6 ⟨rfl, hb6⟩; unfold Fx.R
  go_wp2_with fail
  refine (Mul_any _ _ _).mono ?_; rintro e w7 ⟨rfl, hb7⟩; unfold Fx.R
  go_wp2_with fail
  refine (Mul_any _ _ _).mono ?_; rintro e w8 ⟨rfl, hb8⟩; unfold Fx.R
  go_wp2_with fail
  refine (Add_any _ _ _).mono ?_; rintro e w9 ⟨rfl, hb9⟩; unfold Fx.R
  go_wp2_with fail
  refine (Sub_any _ _ _).mono ?_; rintro e w10 ⟨rfl, hb10⟩; unfold Fx.R
  go_wp2
  go_ret
  exact ⟨rfl, (bchain (bchain (bchain (bchain (bchain (bchain (bchain (bchain (bchain hb1 hb2) hb3) hb4) hb5) hb6) hb7) hb8) hb9) hb10)⟩

theorem FixRing_i (a b c : Int) (ab : Int) (hi : ((Fx.mul ab c).2 == 0) = false) (HS : Hid (∀ w : World, Calls Try.prog 19 #[.int .i64 ab, .int .i64 b] w fun e w' => e = .returned (.tuple #[.int .i64 a, .int .i64 0]) ∧ Below w.heap.size w w')) (w : World)
    (HA1 : Hid (∀ w : World, Calls Try.prog 17 #[.int .i64 a, .int .i64 b] w fun e w' => e = .returned (.tuple #[.int .i64 ab, .int .i64 0]) ∧ Below w.heap.size w w'))
    (HA2 : Hid (∀ w : World, Calls Try.prog 17 #[.int .i64 b, .int .i64 a] w fun e w' => e = .returned (.tuple #[.int .i64 ab, .int .i64 0]) ∧ Below w.heap.size w w')) :
    Calls Try.prog 9 #[.int .i64 a, .int .i64 b, .int .i64 c] w fun e w' => e = .returned (.bool true) ∧ Below w.heap.size w w' := by
  have hmul1 : (Fx.mul a b).1 = (Fx.mul b a).1 := by rw [Fx.mul_comm]
  have hmul2 : (Fx.mul a b).2 = (Fx.mul b a).2 := by rw [Fx.mul_comm]
  have HM1 := Lib.hid hmul1
  have HM2 := Lib.hid hmul2
  clear hmul1 hmul2
  go_enter Try.func9, Try.ntmps9
  go_wp2_with fail
  refine (HA1.out _).mono ?_; rintro e w1 ⟨rfl, hb1⟩
  go_wp2_with fail
  refine (HA2.out _).mono ?_; rintro e w2 ⟨rfl, hb2⟩
  go_wp2_with fail
  refine (Mul_any a b _).mono ?_; rintro e w3 ⟨rfl, hb3⟩; unfold Fx.R
  go_wp2_with fail
  refine (Mul_any b a _).mono ?_; rintro e w4 ⟨rfl, hb4⟩; unfold Fx.R
  go_wp2_with fail
  refine (awake_any _).mono ?_; rintro e w5 ⟨rfl, hb5⟩
  go_wp2_with fail
  refine (same_any _ _ _ _ _ rfl rfl).mono ?_; rintro e w' ⟨rfl, rfl⟩
  go_wp2_with fail
  refine (same_any _ _ _ _ _ HM1.out HM2.out).mono ?_; rintro e w' ⟨rfl, rfl⟩
  go_wp2_with fail
  refine (Mul_any _ _ _).mono ?_; rintro e w6 ⟨rfl, hb6⟩; unfold Fx.R
  go_wp2_with fail
  refine (Mul_any _ _ _).mono ?_; rintro e w7 ⟨rfl, hb7⟩; unfold Fx.R
  go_wp2_with fail
  refine (Mul_any _ _ _).mono ?_; rintro e w8 ⟨rfl, hb8⟩; unfold Fx.R
  go_wp2_with fail
  refine (Add_any _ _ _).mono ?_; rintro e w9 ⟨rfl, hb9⟩; unfold Fx.R
  go_wp2_with fail
  refine (HS.out _).mono ?_; rintro e w10 ⟨rfl, hb10⟩
  go_wp2
  go_ret
  exact ⟨rfl, (bchain (bchain (bchain (bchain (bchain (bchain (bchain (bchain (bchain hb1 hb2) hb3) hb4) hb5) hb6) hb7) hb8) hb9) hb10)⟩

theorem FixRing_j (a b c : Int) (ab : Int) (hi : ((Fx.mul ab c).2 == 0) = true) (hj : ((Fx.mul a c).2 == 0) = false) (HS : Hid (∀ w : World, Calls Try.prog 19 #[.int .i64 ab, .int .i64 b] w fun e w' => e = .returned (.tuple #[.int .i64 a, .int .i64 0]) ∧ Below w.heap.size w w')) (w : World)
    (HA1 : Hid (∀ w : World, Calls Try.prog 17 #[.int .i64 a, .int .i64 b] w fun e w' => e = .returned (.tuple #[.int .i64 ab, .int .i64 0]) ∧ Below w.heap.size w w'))
    (HA2 : Hid (∀ w : World, Calls Try.prog 17 #[.int .i64 b, .int .i64 a] w fun e w' => e = .returned (.tuple #[.int .i64 ab, .int .i64 0]) ∧ Below w.heap.size w w')) :
    Calls Try.prog 9 #[.int .i64 a, .int .i64 b, .int .i64 c] w fun e w' => e = .returned (.bool true) ∧ Below w.heap.size w w' := by
  have hmul1 : (Fx.mul a b).1 = (Fx.mul b a).1 := by rw [Fx.mul_comm]
  have hmul2 : (Fx.mul a b).2 = (Fx.mul b a).2 := by rw [Fx.mul_comm]
  have HM1 := Lib.hid hmul1
  have HM2 := Lib.hid hmul2
  clear hmul1 hmul2
  go_enter Try.func9, Try.ntmps9
  go_wp2_with fail
  refine (HA1.out _).mono ?_; rintro e w1 ⟨rfl, hb1⟩
  go_wp2_with fail
  refine (HA2.out _).mono ?_; rintro e w2 ⟨rfl, hb2⟩
  go_wp2_with fail
  refine (Mul_any a b _).mono ?_; rintro e w3 ⟨rfl, hb3⟩; unfold Fx.R
  go_wp2_with fail
  refine (Mul_any b a _).mono ?_; rintro e w4 ⟨rfl, hb4⟩; unfold Fx.R
  go_wp2_with fail
  refine (awake_any _).mono ?_; rintro e w5 ⟨rfl, hb5⟩
  go_wp2_with fail
  refine (same_any _ _ _ _ _ rfl rfl).mono ?_; rintro e w' ⟨rfl, rfl⟩
  go_wp2_with fail
  refine (same_any _ _ _ _ _ HM1.out HM2.out).mono ?_; rintro e w' ⟨rfl, rfl⟩
  go_wp2_with fail
  refine (Mul_any _ _ _).mono ?_; rintro e w6 ⟨rfl, hb6⟩; unfold Fx.R
  go_wp2_with fail
  refine (Mul_any _ _ _).mono ?_; rintro e w7 ⟨rfl, hb7⟩; unfold Fx.R
  go_wp2_with fail
  refine (Mul_any _ _ _).mono ?_; rintro e w8 ⟨rfl, hb8⟩; unfold Fx.R
  go_wp2_with fail
  refine (Add_any _ _ _).mono ?_; rintro e w9 ⟨rfl, hb9⟩; unfold Fx.R
  go_wp2_with fail
  refine (HS.out _).mono ?_; rintro e w10 ⟨rfl, hb10⟩
  go_wp2
  go_ret
  exact ⟨rfl, (bchain (bchain (bchain (bchain (bchain (bchain (bchain (bchain (bchain hb1 hb2) hb3) hb4) hb5) hb6) hb7) hb8) hb9) hb10)⟩

theorem FixRing_k (a b c : Int) (ab : Int) (hi : ((Fx.mul ab c).2 == 0) = true) (hj : ((Fx.mul a c).2 == 0) = true) (hk : ((Fx.mul b c).2 == 0) = false) (HS : Hid (∀ w : World, Calls Try.prog 19 #[.int .i64 ab, .int .i64 b] w fun e w' => e = .returned (.tuple #[.int .i64 a, .int .i64 0]) ∧ Below w.heap.size w w')) (w : World)
    (HA1 : Hid (∀ w : World, Calls Try.prog 17 #[.int .i64 a, .int .i64 b] w fun e w' => e = .returned (.tuple #[.int .i64 ab, .int .i64 0]) ∧ Below w.heap.size w w'))
    (HA2 : Hid (∀ w : World, Calls Try.prog 17 #[.int .i64 b, .int .i64 a] w fun e w' => e = .returned (.tuple #[.int .i64 ab, .int .i64 0]) ∧ Below w.heap.size w w')) :
    Calls Try.prog 9 #[.int .i64 a, .int .i64 b, .int .i64 c] w fun e w' => e = .returned (.bool true) ∧ Below w.heap.size w w' := by
  have hmul1 : (Fx.mul a b).1 = (Fx.mul b a).1 := by rw [Fx.mul_comm]
  have hmul2 : (Fx.mul a b).2 = (Fx.mul b a).2 := by rw [Fx.mul_comm]
  have HM1 := Lib.hid hmul1
  have HM2 := Lib.hid hmul2
  clear hmul1 hmul2
  go_enter Try.func9, Try.ntmps9
  go_wp2_with fail
  refine (HA1.out _).mono ?_; rintro e w1 ⟨rfl, hb1⟩
  go_wp2_with fail
  refine (HA2.out _).mono ?_; rintro e w2 ⟨rfl, hb2⟩
  go_wp2_with fail
  refine (Mul_any a b _).mono ?_; rintro e w3 ⟨rfl, hb3⟩; unfold Fx.R
  go_wp2_with fail
  refine (Mul_any b a _).mono ?_; rintro e w4 ⟨rfl, hb4⟩; unfold Fx.R
  go_wp2_with fail
  refine (awake_any _).mono ?_; rintro e w5 ⟨rfl, hb5⟩
  go_wp2_with fail
  refine (same_any _ _ _ _ _ rfl rfl).mono ?_; rintro e w' ⟨rfl, rfl⟩
  go_wp2_with fail
  refine (same_any _ _ _ _ _ HM1.out HM2.out).mono ?_; rintro e w' ⟨rfl, rfl⟩
  go_wp2_with fail
  refine (Mul_any _ _ _).mono ?_; rintro e w6 ⟨rfl, hb6⟩; unfold Fx.R
  go_wp2_with fail
  refine (Mul_any _ _ _).mono ?_; rintro e w7 ⟨rfl, hb7⟩; unfold Fx.R
  go_wp2_with fail
  refine (Mul_any _ _ _).mono ?_; rintro e w8 ⟨rfl, hb8⟩; unfold Fx.R
  go_wp2_with fail
  refine (Add_any _ _ _).mono ?_; rintro e w9 ⟨rfl, hb9⟩; unfold Fx.R
  go_wp2_with fail
  refine (HS.out _).mono ?_; rintro e w10 ⟨rfl, hb10⟩
  go_wp2
  go_ret
  exact ⟨rfl, (bchain (bchain (bchain (bchain (bchain (bchain (bchain (bchain (bchain hb1 hb2) hb3) hb4) hb5) hb6) hb7) hb8) hb9) hb10)⟩

theorem FixRing_ok (a b c : Int) (ab x y s : Int) (H1 : Hid (∀ w : World, Calls Try.prog 35 #[.int .i64 ab, .int .i64 c] w fun e w' => e = .returned (.tuple #[.int .i64 s, .int .i64 0]) ∧ Below w.heap.size w w')) (H2 : Hid (∀ w : World, Calls Try.prog 35 #[.int .i64 a, .int .i64 c] w fun e w' => e = .returned (.tuple #[.int .i64 x, .int .i64 0]) ∧ Below w.heap.size w w')) (H3 : Hid (∀ w : World, Calls Try.prog 35 #[.int .i64 b, .int .i64 c] w fun e w' => e = .returned (.tuple #[.int .i64 y, .int .i64 0]) ∧ Below w.heap.size w w')) (H4 : Hid (∀ w : World, Calls Try.prog 17 #[.int .i64 x, .int .i64 y] w fun e w' => e = .returned (.tuple #[.int .i64 s, .int .i64 0]) ∧ Below w.heap.size w w')) (HS : Hid (∀ w : World, Calls Try.prog 19 #[.int .i64 ab, .int .i64 b] w fun e w' => e = .returned (.tuple #[.int .i64 a, .int .i64 0]) ∧ Below w.heap.size w w')) (w : World)
    (HA1 : Hid (∀ w : World, Calls Try.prog 17 #[.int .i64 a, .int .i64 b] w fun e w' => e = .returned (.tuple #[.int .i64 ab, .int .i64 0]) ∧ Below w.heap.size w w'))
    (HA2 : Hid (∀ w : World, Calls Try.prog 17 #[.int .i64 b, .int .i64 a] w fun e w' => e = .returned (.tuple #[.int .i64 ab, .int .i64 0]) ∧ Below w.heap.size w w')) :
    Calls Try.prog 9 #[.int .i64 a, .int .i64 b, .int .i64 c] w fun e w' => e = .returned (.bool true) ∧ Below w.heap.size w w' := by
  have hmul1 : (Fx.mul a b).1 = (Fx.mul b a).1 := by rw [Fx.mul_comm]
  have hmul2 : (Fx.mul a b).2 = (Fx.mul b a).2 := by rw [Fx.mul_comm]
  have HM1 := Lib.hid hmul1
  have HM2 := Lib.hid hmul2
  clear hmul1 hmul2
  go_enter Try.func9, Try.ntmps9
  go_wp2_with fail
  refine (HA1.out _).mono ?_; rintro e w1 ⟨rfl, hb1⟩
  go_wp2_with fail
  refine (HA2.out _).mono ?_; rintro e w2 ⟨rfl, hb2⟩
  go_wp2_with fail
  refine (Mul_any a b _).mono ?_; rintro e w3 ⟨rfl, hb3⟩; unfold Fx.R
  go_wp2_with fail
  refine (Mul_any b a _).mono ?_; rintro e w4 ⟨rfl, hb4⟩; unfold Fx.R
  go_wp2_with fail
  refine (awake_any _).mono ?_; rintro e w5 ⟨rfl, hb5⟩
  go_wp2_with fail
  refine (same_any _ _ _ _ _ rfl rfl).mono ?_; rintro e w' ⟨rfl, rfl⟩
  go_wp2_with fail
  refine (same_any _ _ _ _ _ HM1.out HM2.out).mono ?_; rintro e w' ⟨rfl, rfl⟩
  go_wp2_with fail
  refine (H1.out _).mono ?_; rintro e w6 ⟨rfl, hb6⟩
  go_wp2_with fail
  refine (H2.out _).mono ?_; rintro e w7 ⟨rfl, hb7⟩
  go_wp2_with fail
  refine (H3.out _).mono ?_; rintro e w8 ⟨rfl, hb8⟩
  go_wp2_with fail
  refine (H4.out _).mono ?_; rintro e w9 ⟨rfl, hb9⟩
  go_wp2_with fail
  refine (HS.out _).mono ?_; rintro e w10 ⟨rfl, hb10⟩
  go_wp2
  go_ret
  exact ⟨rfl, (bchain (bchain (bchain (bchain (bchain (bchain (bchain (bchain (bchain hb1 hb2) hb3) hb4) hb5) hb6) hb7) hb8) hb9) hb10)⟩

theorem FixRing_walk (a b c : Int) (w : World) (_ : (Lit.int .i64 a).wf = true) (_ : (Lit.int .i64 b).wf = true) (_ : (Lit.int .i64 c).wf = true) :
    Calls Try.prog 9 #[.int .i64 a, .int .i64 b, .int .i64 c] w fun e w' => e = .returned (.bool true) ∧ Below w.heap.size w w' := by
  have HA1 := fun w => Add_any a b w
  have HA2 := fun w => Add_any b a w
  rw [Fx.add_comm b a] at HA2
  cases hab : Fx.isF a && Fx.isF b
  · rw [show Fx.add a b = (0, 1) from Fx.two_bad hab] at HA1 HA2
    exact FixRing_err a b c 1 (.inl rfl) w HA1 HA2
  obtain ⟨ha, hb⟩ : Fx.isF a = true ∧ Fx.isF b = true := by simpa using hab
  cases hs : Fx.isF (a + b)
  · rw [show Fx.add a b = (0, 10) from (Fx.two_ok ha hb).trans (Fx.fitsV_no hs)] at HA1 HA2
    exact FixRing_err a b c 10 (.inr rfl) w HA1 HA2
  rw [show Fx.add a b = (a + b, 0) from (Fx.two_ok ha hb).trans (Fx.fitsV_ok hs)] at HA1 HA2
  have HS := fun w => Sub_any (a + b) b w
  rw [show Fx.sub (a + b) b = (a, 0) from (Fx.two_ok hs hb).trans (by rw [Int.add_sub_cancel]; exact Fx.fitsV_ok ha)] at HS
  by_cases hi : (Fx.mul (a + b) c).2 = 0
  · by_cases hj : (Fx.mul a c).2 = 0
    · by_cases hk : (Fx.mul b c).2 = 0
      · obtain ⟨_, hc, f1, e1⟩ := Fx.mul_zero hi
        obtain ⟨_, _, f2, e2⟩ := Fx.mul_zero hj
        obtain ⟨_, _, f3, e3⟩ := Fx.mul_zero hk
        have M1 := fun w => Mul_any (a + b) c w
        have M2 := fun w => Mul_any a c w
        have M3 := fun w => Mul_any b c w
        have M4 := fun w => Add_any (a * c) (b * c) w
        rw [e1] at M1; rw [e2] at M2; rw [e3] at M3
        rw [show Fx.add (a * c) (b * c) = ((a + b) * c, 0) from (Fx.two_ok f2 f3).trans (by rw [← Int.add_mul]; exact Fx.fitsV_ok f1)] at M4
        exact FixRing_ok a b c (a + b) _ _ _ M1 M2 M3 M4 HS w HA1 HA2
      · exact FixRing_k a b c (a + b) (by simpa using hi) (by simpa using hj) (by simpa using hk) HS w HA1 HA2
    · exact FixRing_j a b c (a + b) (by simpa using hi) (by simpa using hj) HS w HA1 HA2
  · exact FixRing_i a b c (a + b) (by simpa using hi) HS w HA1 HA2
end Go.Proofs.Ytdiadoahcaoinaa
