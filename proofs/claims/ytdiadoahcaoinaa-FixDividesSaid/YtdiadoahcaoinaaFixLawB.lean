/-
  The walk of the law FixDivides, case by case.
-/
import Derived.Test.YtdiadoahcaoinaaFixLawA
namespace Go.Proofs.Ytdiadoahcaoinaa
open Go.RowKit

theorem FixDivides_nnZ (a b q : Int) (w : World) (ba : -1152921504606846976 ≤ a ∧ a ≤ 1152921504606846975) (bd : -1152921504606846976 ≤ b ∧ b ≤ 1152921504606846975) (sa : a < 0) (sb : b < 0)
    (hq : wrap64 (wrap64 (q * b)) = a)
    (H1 : Hid (∀ w : World, Calls Try.prog 13 #[.int .i64 a, .int .i64 b] w fun e w' => e = .returned (.tuple #[.int .i64 q, .int .i64 0]) ∧ Below w.heap.size w w'))
    (H2 : Hid (∀ w : World, Calls Try.prog 14 #[.int .i64 a, .int .i64 b] w fun e w' => e = .returned (.tuple #[.int .i64 0, .int .i64 0]) ∧ Below w.heap.size w w'))
    (H3 : Hid (∀ w : World, Calls Try.prog 15 #[.int .i64 a, .int .i64 b] w fun e w' => e = .returned (.tuple #[.int .i64 0, .int .i64 0]) ∧ Below w.heap.size w w')) :
    Calls Try.prog 3 #[.int .i64 a, .int .i64 b] w fun e w' => e = .returned (.bool true) ∧ Below w.heap.size w w' := by
  have t0 : (0 + b != 0) = true := by simp; omega
  have t6 : decide (a < 0) = true := by simp; omega
  have t7 : decide (b < 0) = true := by simp; omega
  go_enter Try.func3, Try.ntmps3
  go_wp2_with fail
  refine (H1.out _).mono ?_; rintro e w1 ⟨rfl, hb1⟩
  go_wp2_with fail
  refine (H2.out _).mono ?_; rintro e w2 ⟨rfl, hb2⟩
  go_wp2_with fail
  refine (H3.out _).mono ?_; rintro e w3 ⟨rfl, hb3⟩
  go_wp2_with fail
  refine (awake_any _).mono ?_; rintro e w7 ⟨rfl, hb7⟩
  go_wp2
  go_ret
  exact ⟨rfl, bchain (bchain (bchain hb1 hb2) hb3) hb7⟩

theorem FixDivides_nnN (a b q : Int) (r : Int) (w : World) (ba : -1152921504606846976 ≤ a ∧ a ≤ 1152921504606846975) (bd : -1152921504606846976 ≤ b ∧ b ≤ 1152921504606846975) (sa : a < 0) (sb : b < 0) (hr : r < 0) (hl : b < r)
    (hq : wrap64 (wrap64 (q * b) + r) = a)
    (H1 : Hid (∀ w : World, Calls Try.prog 13 #[.int .i64 a, .int .i64 b] w fun e w' => e = .returned (.tuple #[.int .i64 q, .int .i64 0]) ∧ Below w.heap.size w w'))
    (H2 : Hid (∀ w : World, Calls Try.prog 14 #[.int .i64 a, .int .i64 b] w fun e w' => e = .returned (.tuple #[.int .i64 r, .int .i64 0]) ∧ Below w.heap.size w w'))
    (H3 : Hid (∀ w : World, Calls Try.prog 15 #[.int .i64 a, .int .i64 b] w fun e w' => e = .returned (.tuple #[.int .i64 r, .int .i64 0]) ∧ Below w.heap.size w w')) :
    Calls Try.prog 3 #[.int .i64 a, .int .i64 b] w fun e w' => e = .returned (.bool true) ∧ Below w.heap.size w w' := by
  have t1 : decide (r < 0) = true := by simp; omega
  have t2 : (r != 0) = true := by simp; omega
  have t3 : (r != r) = false := by simp
  have t6 : decide (a < 0) = true := by simp; omega
  have t7 : decide (b < 0) = true := by simp; omega
  go_enter Try.func3, Try.ntmps3
  go_wp2_with fail
  refine (H1.out _).mono ?_; rintro e w1 ⟨rfl, hb1⟩
  go_wp2_with fail
  refine (H2.out _).mono ?_; rintro e w2 ⟨rfl, hb2⟩
  go_wp2_with fail
  refine (H3.out _).mono ?_; rintro e w3 ⟨rfl, hb3⟩
  go_wp2_with fail
  refine (awake_any _).mono ?_; rintro e w7 ⟨rfl, hb7⟩
  go_wp2
  go_ret
  exact ⟨rfl, bchain (bchain (bchain hb1 hb2) hb3) hb7⟩

theorem FixDivides_npZ (a b q : Int) (w : World) (ba : -1152921504606846976 ≤ a ∧ a ≤ 1152921504606846975) (bd : -1152921504606846976 ≤ b ∧ b ≤ 1152921504606846975) (sa : a < 0) (sb : 0 < b)
    (hq : wrap64 (wrap64 (q * b)) = a)
    (H1 : Hid (∀ w : World, Calls Try.prog 13 #[.int .i64 a, .int .i64 b] w fun e w' => e = .returned (.tuple #[.int .i64 q, .int .i64 0]) ∧ Below w.heap.size w w'))
    (H2 : Hid (∀ w : World, Calls Try.prog 14 #[.int .i64 a, .int .i64 b] w fun e w' => e = .returned (.tuple #[.int .i64 0, .int .i64 0]) ∧ Below w.heap.size w w'))
    (H3 : Hid (∀ w : World, Calls Try.prog 15 #[.int .i64 a, .int .i64 b] w fun e w' => e = .returned (.tuple #[.int .i64 0, .int .i64 0]) ∧ Below w.heap.size w w')) :
    Calls Try.prog 3 #[.int .i64 a, .int .i64 b] w fun e w' => e = .returned (.bool true) ∧ Below w.heap.size w w' := by
  have t0 : (0 + b != 0) = true := by simp; omega
  have t6 : decide (a < 0) = true := by simp; omega
  have t7 : decide (b < 0) = false := by simp; omega
  go_enter Try.func3, Try.ntmps3
  go_wp2_with fail
  refine (H1.out _).mono ?_; rintro e w1 ⟨rfl, hb1⟩
  go_wp2_with fail
  refine (H2.out _).mono ?_; rintro e w2 ⟨rfl, hb2⟩
  go_wp2_with fail
  refine (H3.out _).mono ?_; rintro e w3 ⟨rfl, hb3⟩
  go_wp2_with fail
  refine (awake_any _).mono ?_; rintro e w7 ⟨rfl, hb7⟩
  go_wp2
  go_ret
  exact ⟨rfl, bchain (bchain (bchain hb1 hb2) hb3) hb7⟩

theorem FixDivides_npN (a b q : Int) (r : Int) (w : World) (ba : -1152921504606846976 ≤ a ∧ a ≤ 1152921504606846975) (bd : -1152921504606846976 ≤ b ∧ b ≤ 1152921504606846975) (sa : a < 0) (sb : 0 < b) (hr : r < 0) (hl : -b < r ∧ r < b)
    (hq : wrap64 (wrap64 (q * b) + r) = a)
    (H1 : Hid (∀ w : World, Calls Try.prog 13 #[.int .i64 a, .int .i64 b] w fun e w' => e = .returned (.tuple #[.int .i64 q, .int .i64 0]) ∧ Below w.heap.size w w'))
    (H2 : Hid (∀ w : World, Calls Try.prog 14 #[.int .i64 a, .int .i64 b] w fun e w' => e = .returned (.tuple #[.int .i64 r, .int .i64 0]) ∧ Below w.heap.size w w'))
    (H3 : Hid (∀ w : World, Calls Try.prog 15 #[.int .i64 a, .int .i64 b] w fun e w' => e = .returned (.tuple #[.int .i64 (r + b), .int .i64 0]) ∧ Below w.heap.size w w')) :
    Calls Try.prog 3 #[.int .i64 a, .int .i64 b] w fun e w' => e = .returned (.bool true) ∧ Below w.heap.size w w' := by
  have t1 : decide (r < 0) = true := by simp; omega
  have t2 : (r != 0) = true := by simp; omega
  have t3 : (r != r + b) = true := by simp; omega
  have t4 : decide (r + b < 0) = false := by simp; omega
  have t5 : (r + b != 0) = true := by simp; omega
  have t6 : decide (a < 0) = true := by simp; omega
  have t7 : decide (b < 0) = false := by simp; omega
  go_enter Try.func3, Try.ntmps3
  go_wp2_with fail
  refine (H1.out _).mono ?_; rintro e w1 ⟨rfl, hb1⟩
  go_wp2_with fail
  refine (H2.out _).mono ?_; rintro e w2 ⟨rfl, hb2⟩
  go_wp2_with fail
  refine (H3.out _).mono ?_; rintro e w3 ⟨rfl, hb3⟩
  go_wp2_with fail
  refine (awake_any _).mono ?_; rintro e w7 ⟨rfl, hb7⟩
  go_wp2
  go_ret
  exact ⟨rfl, bchain (bchain (bchain hb1 hb2) hb3) hb7⟩

theorem FixDivides_pnZ (a b q : Int) (w : World) (ba : -1152921504606846976 ≤ a ∧ a ≤ 1152921504606846975) (bd : -1152921504606846976 ≤ b ∧ b ≤ 1152921504606846975) (sa : 0 ≤ a) (sb : b < 0)
    (hq : wrap64 (wrap64 (q * b)) = a)
    (H1 : Hid (∀ w : World, Calls Try.prog 13 #[.int .i64 a, .int .i64 b] w fun e w' => e = .returned (.tuple #[.int .i64 q, .int .i64 0]) ∧ Below w.heap.size w w'))
    (H2 : Hid (∀ w : World, Calls Try.prog 14 #[.int .i64 a, .int .i64 b] w fun e w' => e = .returned (.tuple #[.int .i64 0, .int .i64 0]) ∧ Below w.heap.size w w'))
    (H3 : Hid (∀ w : World, Calls Try.prog 15 #[.int .i64 a, .int .i64 b] w fun e w' => e = .returned (.tuple #[.int .i64 0, .int .i64 0]) ∧ Below w.heap.size w w')) :
    Calls Try.prog 3 #[.int .i64 a, .int .i64 b] w fun e w' => e = .returned (.bool true) ∧ Below w.heap.size w w' := by
  have t0 : (0 + b != 0) = true := by simp; omega
  have t6 : decide (a < 0) = false := by simp; omega
  have t7 : decide (b < 0) = true := by simp; omega
  go_enter Try.func3, Try.ntmps3
  go_wp2_with fail
  refine (H1.out _).mono ?_; rintro e w1 ⟨rfl, hb1⟩
  go_wp2_with fail
  refine (H2.out _).mono ?_; rintro e w2 ⟨rfl, hb2⟩
  go_wp2_with fail
  refine (H3.out _).mono ?_; rintro e w3 ⟨rfl, hb3⟩
  go_wp2_with fail
  refine (awake_any _).mono ?_; rintro e w7 ⟨rfl, hb7⟩
  go_wp2
  go_ret
  exact ⟨rfl, bchain (bchain (bchain hb1 hb2) hb3) hb7⟩

theorem FixDivides_pnN (a b q : Int) (r : Int) (w : World) (ba : -1152921504606846976 ≤ a ∧ a ≤ 1152921504606846975) (bd : -1152921504606846976 ≤ b ∧ b ≤ 1152921504606846975) (sa : 0 ≤ a) (sb : b < 0) (hr : 0 < r) (hl : b < r ∧ r < -b)
    (hq : wrap64 (wrap64 (q * b) + r) = a)
    (H1 : Hid (∀ w : World, Calls Try.prog 13 #[.int .i64 a, .int .i64 b] w fun e w' => e = .returned (.tuple #[.int .i64 q, .int .i64 0]) ∧ Below w.heap.size w w'))
    (H2 : Hid (∀ w : World, Calls Try.prog 14 #[.int .i64 a, .int .i64 b] w fun e w' => e = .returned (.tuple #[.int .i64 r, .int .i64 0]) ∧ Below w.heap.size w w'))
    (H3 : Hid (∀ w : World, Calls Try.prog 15 #[.int .i64 a, .int .i64 b] w fun e w' => e = .returned (.tuple #[.int .i64 (r + b), .int .i64 0]) ∧ Below w.heap.size w w')) :
    Calls Try.prog 3 #[.int .i64 a, .int .i64 b] w fun e w' => e = .returned (.bool true) ∧ Below w.heap.size w w' := by
  have t1 : decide (r < 0) = false := by simp; omega
  have t2 : (r != 0) = true := by simp; omega
  have t3 : (r != r + b) = true := by simp; omega
  have t4 : decide (r + b < 0) = true := by simp; omega
  have t5 : (r + b != 0) = true := by simp; omega
  have t6 : decide (a < 0) = false := by simp; omega
  have t7 : decide (b < 0) = true := by simp; omega
  go_enter Try.func3, Try.ntmps3
  go_wp2_with fail
  refine (H1.out _).mono ?_; rintro e w1 ⟨rfl, hb1⟩
  go_wp2_with fail
  refine (H2.out _).mono ?_; rintro e w2 ⟨rfl, hb2⟩
  go_wp2_with fail
  refine (H3.out _).mono ?_; rintro e w3 ⟨rfl, hb3⟩
  go_wp2_with fail
  refine (awake_any _).mono ?_; rintro e w7 ⟨rfl, hb7⟩
  go_wp2
  go_ret
  exact ⟨rfl, bchain (bchain (bchain hb1 hb2) hb3) hb7⟩

theorem FixDivides_ppZ (a b q : Int) (w : World) (ba : -1152921504606846976 ≤ a ∧ a ≤ 1152921504606846975) (bd : -1152921504606846976 ≤ b ∧ b ≤ 1152921504606846975) (sa : 0 ≤ a) (sb : 0 < b)
    (hq : wrap64 (wrap64 (q * b)) = a)
    (H1 : Hid (∀ w : World, Calls Try.prog 13 #[.int .i64 a, .int .i64 b] w fun e w' => e = .returned (.tuple #[.int .i64 q, .int .i64 0]) ∧ Below w.heap.size w w'))
    (H2 : Hid (∀ w : World, Calls Try.prog 14 #[.int .i64 a, .int .i64 b] w fun e w' => e = .returned (.tuple #[.int .i64 0, .int .i64 0]) ∧ Below w.heap.size w w'))
    (H3 : Hid (∀ w : World, Calls Try.prog 15 #[.int .i64 a, .int .i64 b] w fun e w' => e = .returned (.tuple #[.int .i64 0, .int .i64 0]) ∧ Below w.heap.size w w')) :
    Calls Try.prog 3 #[.int .i64 a, .int .i64 b] w fun e w' => e = .returned (.bool true) ∧ Below w.heap.size w w' := by
  have t0 : (0 + b != 0) = true := by simp; omega
  have t6 : decide (a < 0) = false := by simp; omega
  have t7 : decide (b < 0) = false := by simp; omega
  go_enter Try.func3, Try.ntmps3
  go_wp2_with fail
  refine (H1.out _).mono ?_; rintro e w1 ⟨rfl, hb1⟩
  go_wp2_with fail
  refine (H2.out _).mono ?_; rintro e w2 ⟨rfl, hb2⟩
  go_wp2_with fail
  refine (H3.out _).mono ?_; rintro e w3 ⟨rfl, hb3⟩
  go_wp2_with fail
  refine (awake_any _).mono ?_; rintro e w7 ⟨rfl, hb7⟩
  go_wp2
  go_ret
  exact ⟨rfl, bchain (bchain (bchain hb1 hb2) hb3) hb7⟩

theorem FixDivides_ppN (a b q : Int) (r : Int) (w : World) (ba : -1152921504606846976 ≤ a ∧ a ≤ 1152921504606846975) (bd : -1152921504606846976 ≤ b ∧ b ≤ 1152921504606846975) (sa : 0 ≤ a) (sb : 0 < b) (hr : 0 < r) (hl : -b < r ∧ r < b)
    (hq : wrap64 (wrap64 (q * b) + r) = a)
    (H1 : Hid (∀ w : World, Calls Try.prog 13 #[.int .i64 a, .int .i64 b] w fun e w' => e = .returned (.tuple #[.int .i64 q, .int .i64 0]) ∧ Below w.heap.size w w'))
    (H2 : Hid (∀ w : World, Calls Try.prog 14 #[.int .i64 a, .int .i64 b] w fun e w' => e = .returned (.tuple #[.int .i64 r, .int .i64 0]) ∧ Below w.heap.size w w'))
    (H3 : Hid (∀ w : World, Calls Try.prog 15 #[.int .i64 a, .int .i64 b] w fun e w' => e = .returned (.tuple #[.int .i64 r, .int .i64 0]) ∧ Below w.heap.size w w')) :
    Calls Try.prog 3 #[.int .i64 a, .int .i64 b] w fun e w' => e = .returned (.bool true) ∧ Below w.heap.size w w' := by
  have t1 : decide (r < 0) = false := by simp; omega
  have t2 : (r != 0) = true := by simp; omega
  have t3 : (r != r) = false := by simp
  have t6 : decide (a < 0) = false := by simp; omega
  have t7 : decide (b < 0) = false := by simp; omega
  go_enter Try.func3, Try.ntmps3
  go_wp2_with fail
  refine (H1.out _).mono ?_; rintro e w1 ⟨rfl, hb1⟩
  go_wp2_with fail
  refine (H2.out _).mono ?_; rintro e w2 ⟨rfl, hb2⟩
  go_wp2_with fail
  refine (H3.out _).mono ?_; rintro e w3 ⟨rfl, hb3⟩
  go_wp2_with fail
  refine (awake_any _).mono ?_; rintro e w7 ⟨rfl, hb7⟩
  go_wp2
  go_ret
  exact ⟨rfl, bchain (bchain (bchain hb1 hb2) hb3) hb7⟩
theorem FixDivides_walk (a b : Int) (w : World) (_ : (Lit.int .i64 a).wf = true) (_ : (Lit.int .i64 b).wf = true) :
    Calls Try.prog 3 #[.int .i64 a, .int .i64 b] w fun e w' => e = .returned (.bool true) ∧ Below w.heap.size w w' := by
  cases hab : Fx.isF a && Fx.isF b
  · have e1 : Fx.quo a b = (0, 1) := Fx.two_bad hab
    have e2 : Fx.rem a b = (0, 1) := Fx.two_bad hab
    have e3 : Fx.mod a b = (0, 1) := Fx.two_bad hab
    go_enter Try.func3, Try.ntmps3
    go_wp2_with fail
    refine (Quo_any a b _).mono ?_; rintro e w1 ⟨rfl, hb1⟩; unfold Fx.R; rw [e1]
    go_wp2_with fail
    refine (Rem_any a b _).mono ?_; rintro e w2 ⟨rfl, hb2⟩; unfold Fx.R; rw [e2]
    go_wp2_with fail
    refine (Mod_any a b _).mono ?_; rintro e w3 ⟨rfl, hb3⟩; unfold Fx.R; rw [e3]
    go_wp2_with fail
    refine (awake_any _).mono ?_; rintro e w7 ⟨rfl, hb7⟩
    go_wp2
    go_ret
    exact ⟨rfl, bchain (bchain (bchain hb1 hb2) hb3) hb7⟩
  obtain ⟨ha, hb⟩ : Fx.isF a = true ∧ Fx.isF b = true := by simpa using hab
  by_cases h0 : b = 0
  · subst h0
    have e1 : Fx.quo a 0 = (0, 11) := (Fx.two_ok ha hb).trans (if_pos rfl)
    have e2 : Fx.rem a 0 = (0, 11) := (Fx.two_ok ha hb).trans (if_pos rfl)
    have e3 : Fx.mod a 0 = (0, 11) := (Fx.two_ok ha hb).trans (if_pos rfl)
    go_enter Try.func3, Try.ntmps3
    go_wp2_with fail
    refine (Quo_any a 0 _).mono ?_; rintro e w1 ⟨rfl, hb1⟩; unfold Fx.R; rw [e1]
    go_wp2_with fail
    refine (Rem_any a 0 _).mono ?_; rintro e w2 ⟨rfl, hb2⟩; unfold Fx.R; rw [e2]
    go_wp2_with fail
    refine (Mod_any a 0 _).mono ?_; rintro e w3 ⟨rfl, hb3⟩; unfold Fx.R; rw [e3]
    go_wp2_with fail
    refine (awake_any _).mono ?_; rintro e w7 ⟨rfl, hb7⟩
    go_wp2
    go_ret
    exact ⟨rfl, bchain (bchain (bchain hb1 hb2) hb3) hb7⟩
  have ba := Fx.isF_bd ha
  have bd := Fx.isF_bd hb
  have hr := Fx.tmod_bd a b h0
  obtain ⟨r, hrr⟩ : ∃ r, r = a.tmod b := ⟨_, rfl⟩
  have e2 : Fx.rem a b = (r, 0) := (Fx.two_ok ha hb).trans ((if_neg h0).trans (by rw [hrr]))
  have hm := Fx.mod_of_rem a b h0
  obtain ⟨m, hmm⟩ : ∃ m, m = (a.tmod b + b).tmod b := ⟨_, rfl⟩
  have e3 : Fx.mod a b = (m, 0) := (Fx.two_ok ha hb).trans ((if_neg h0).trans (by rw [hmm]))
  have hs := Fx.tmod_sign a b
  rw [← hmm, ← hrr] at hm
  rw [← hrr] at hr hs
  cases hq : Fx.isF (a.tdiv b)
  · have e1 : Fx.quo a b = (0, 10) := (Fx.two_ok ha hb).trans ((if_neg h0).trans (Fx.fitsV_no hq))
    obtain ⟨rfl, rfl⟩ := Fx.tdiv_over ba bd h0 hq
    have hr0 : r = 0 := by rw [hrr]; decide
    have hm0 : m = 0 := by rw [hmm]; decide
    subst hr0 hm0
    clear hrr hmm hq hm hs hr
    go_enter Try.func3, Try.ntmps3
    go_wp2_with fail
    refine (Quo_any _ _ _).mono ?_; rintro e w1 ⟨rfl, hb1⟩; unfold Fx.R; rw [e1]
    go_wp2_with fail
    refine (Rem_any _ _ _).mono ?_; rintro e w2 ⟨rfl, hb2⟩; unfold Fx.R; rw [e2]
    go_wp2_with fail
    refine (Mod_any _ _ _).mono ?_; rintro e w3 ⟨rfl, hb3⟩; unfold Fx.R; rw [e3]
    go_wp2_with fail
    refine (awake_any _).mono ?_; rintro e w7 ⟨rfl, hb7⟩
    go_wp2
    go_ret
    exact ⟨by simp, bchain (bchain (bchain hb1 hb2) hb3) hb7⟩
  · obtain ⟨q, hqq⟩ : ∃ q, q = a.tdiv b := ⟨_, rfl⟩
    have e1 : Fx.quo a b = (q, 0) := (Fx.two_ok ha hb).trans ((if_neg h0).trans (by rw [Fx.fitsV_ok hq, hqq]))
    have hw : q * b + r = a := by rw [hqq, hrr, Int.mul_comm]; exact Int.mul_tdiv_add_tmod a b
    have hw1 : wrap64 (wrap64 (q * b) + r) = a := by unfold wrap64; omega
    have H1 := fun w => Quo_any a b w
    have H2 := fun w => Rem_any a b w
    have H3 := fun w => Mod_any a b w
    rw [e1] at H1; rw [e2] at H2; rw [e3] at H3
    by_cases hr0 : r = 0
    · have hm0 : m = 0 := by rw [hm, if_neg (by simp [hr0])]; exact hr0
      subst hr0 hm0
      have hw2 : wrap64 (wrap64 (q * b)) = a := by simpa using hw1
      rcases Int.lt_or_le a 0 with sa | sa <;> rcases Int.lt_or_le b 0 with sb | sb
      · exact FixDivides_nnZ a b q w ba bd sa sb hw2 H1 H2 H3
      · exact FixDivides_npZ a b q w ba bd sa (by omega) hw2 H1 H2 H3
      · exact FixDivides_pnZ a b q w ba bd sa sb hw2 H1 H2 H3
      · exact FixDivides_ppZ a b q w ba bd sa (by omega) hw2 H1 H2 H3
    · rcases Int.lt_or_le a 0 with sa | sa <;> rcases Int.lt_or_le b 0 with sb | sb
      · obtain rfl : m = r := by rw [hm, if_neg]; intro hc; exact hc.2 (by simp; omega)
        exact FixDivides_nnN a b q m w ba bd sa sb (by omega) (by omega) hw1 H1 H2 H3
      · obtain rfl : m = r + b := by rw [hm, if_pos ⟨hr0, by simp; omega⟩]
        exact FixDivides_npN a b q r w ba bd sa (by omega) (by omega) (by omega) hw1 H1 H2 H3
      · obtain rfl : m = r + b := by rw [hm, if_pos ⟨hr0, by simp; omega⟩]
        exact FixDivides_pnN a b q r w ba bd sa sb (by omega) (by omega) hw1 H1 H2 H3
      · obtain rfl : m = r := by rw [hm, if_neg]; intro hc; exact hc.2 (by simp; omega)
        exact FixDivides_ppN a b q m w ba bd sa (by omega) (by omega) (by omega) hw1 H1 H2 H3

end Go.Proofs.Ytdiadoahcaoinaa
