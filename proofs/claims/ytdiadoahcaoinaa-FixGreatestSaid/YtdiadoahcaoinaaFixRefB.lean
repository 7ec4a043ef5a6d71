/-
  The walks of shuttleref01: Mod, Gcd.
-/
import Derived.Test.YtdiadoahcaoinaaFixPlain
import Derived.Test.YtdiadoahcaoinaaFixRef
namespace Go.Proofs.Ytdiadoahcaoinaa
open Go.RowKit

theorem rMod_err (a b : Int) (c : Int) (hc : c = 1 ∨ c = 11) (H : Hid (∀ w : World, Calls Try.prog 28 #[.int .i64 a, .int .i64 b] w fun e w' => e = .returned (.tuple #[.int .i64 0, .int .i64 c]) ∧ Below w.heap.size w w')) (w : World) :
    Calls Try.prog 29 #[.int .i64 a, .int .i64 b] w fun e w' => e = .returned (.tuple #[.int .i64 0, .int .i64 c]) ∧ Below w.heap.size w w' := by
  have t1 : (c == 0) = false := by simp; omega
  go_enter Try.func29, Try.ntmps29
  go_wp2_with fail
  refine (H.out _).mono ?_; rintro e w1 ⟨rfl, hb1⟩
  go_wp2
  go_ret2
  exact ⟨rfl, hb1⟩

theorem rMod_zero (a b : Int) (H : Hid (∀ w : World, Calls Try.prog 28 #[.int .i64 a, .int .i64 b] w fun e w' => e = .returned (.tuple #[.int .i64 0, .int .i64 0]) ∧ Below w.heap.size w w')) (w : World) :
    Calls Try.prog 29 #[.int .i64 a, .int .i64 b] w fun e w' => e = .returned (.tuple #[.int .i64 0, .int .i64 0]) ∧ Below w.heap.size w w' := by
  go_enter Try.func29, Try.ntmps29
  go_wp2_with fail
  refine (H.out _).mono ?_; rintro e w1 ⟨rfl, hb1⟩
  go_wp2
  go_ret2
  exact ⟨rfl, hb1⟩

theorem rMod_nn (a b : Int) (r : Int) (ba : -1152921504606846976 ≤ a ∧ a ≤ 1152921504606846975) (bd : -1152921504606846976 ≤ b ∧ b ≤ 1152921504606846975) (sr : r < 0) (sb : b < 0) (rb : -1152921504606846976 ≤ r ∧ r ≤ 1152921504606846976) (H : Hid (∀ w : World, Calls Try.prog 28 #[.int .i64 a, .int .i64 b] w fun e w' => e = .returned (.tuple #[.int .i64 r, .int .i64 0]) ∧ Below w.heap.size w w')) (w : World) :
    Calls Try.prog 29 #[.int .i64 a, .int .i64 b] w fun e w' => e = .returned (.tuple #[.int .i64 r, .int .i64 0]) ∧ Below w.heap.size w w' := by
  have t1 : (r != 0) = true := by simp; omega
  have t2 : decide (r < 0) = true := by simp; omega
  have t3 : decide (b < 0) = true := by simp; omega
  go_enter Try.func29, Try.ntmps29
  go_wp2_with fail
  refine (H.out _).mono ?_; rintro e w1 ⟨rfl, hb1⟩
  go_wp2
  go_ret2
  exact ⟨rfl, hb1⟩

theorem rMod_np (a b : Int) (r : Int) (ba : -1152921504606846976 ≤ a ∧ a ≤ 1152921504606846975) (bd : -1152921504606846976 ≤ b ∧ b ≤ 1152921504606846975) (sr : r < 0) (sb : 0 < b) (rb : -1152921504606846976 ≤ r ∧ r ≤ 1152921504606846976) (H : Hid (∀ w : World, Calls Try.prog 28 #[.int .i64 a, .int .i64 b] w fun e w' => e = .returned (.tuple #[.int .i64 r, .int .i64 0]) ∧ Below w.heap.size w w')) (w : World) :
    Calls Try.prog 29 #[.int .i64 a, .int .i64 b] w fun e w' => e = .returned (.tuple #[.int .i64 (r + b), .int .i64 0]) ∧ Below w.heap.size w w' := by
  have t1 : (r != 0) = true := by simp; omega
  have t2 : decide (r < 0) = true := by simp; omega
  have t3 : decide (b < 0) = false := by simp; omega
  go_enter Try.func29, Try.ntmps29
  go_wp2_with fail
  refine (H.out _).mono ?_; rintro e w1 ⟨rfl, hb1⟩
  go_wp2
  go_ret2
  exact ⟨rfl, hb1⟩

theorem rMod_pn (a b : Int) (r : Int) (ba : -1152921504606846976 ≤ a ∧ a ≤ 1152921504606846975) (bd : -1152921504606846976 ≤ b ∧ b ≤ 1152921504606846975) (sr : 0 < r) (sb : b < 0) (rb : -1152921504606846976 ≤ r ∧ r ≤ 1152921504606846976) (H : Hid (∀ w : World, Calls Try.prog 28 #[.int .i64 a, .int .i64 b] w fun e w' => e = .returned (.tuple #[.int .i64 r, .int .i64 0]) ∧ Below w.heap.size w w')) (w : World) :
    Calls Try.prog 29 #[.int .i64 a, .int .i64 b] w fun e w' => e = .returned (.tuple #[.int .i64 (r + b), .int .i64 0]) ∧ Below w.heap.size w w' := by
  have t1 : (r != 0) = true := by simp; omega
  have t2 : decide (r < 0) = false := by simp; omega
  have t3 : decide (b < 0) = true := by simp; omega
  go_enter Try.func29, Try.ntmps29
  go_wp2_with fail
  refine (H.out _).mono ?_; rintro e w1 ⟨rfl, hb1⟩
  go_wp2
  go_ret2
  exact ⟨rfl, hb1⟩

theorem rMod_pp (a b : Int) (r : Int) (ba : -1152921504606846976 ≤ a ∧ a ≤ 1152921504606846975) (bd : -1152921504606846976 ≤ b ∧ b ≤ 1152921504606846975) (sr : 0 < r) (sb : 0 < b) (rb : -1152921504606846976 ≤ r ∧ r ≤ 1152921504606846976) (H : Hid (∀ w : World, Calls Try.prog 28 #[.int .i64 a, .int .i64 b] w fun e w' => e = .returned (.tuple #[.int .i64 r, .int .i64 0]) ∧ Below w.heap.size w w')) (w : World) :
    Calls Try.prog 29 #[.int .i64 a, .int .i64 b] w fun e w' => e = .returned (.tuple #[.int .i64 r, .int .i64 0]) ∧ Below w.heap.size w w' := by
  have t1 : (r != 0) = true := by simp; omega
  have t2 : decide (r < 0) = false := by simp; omega
  have t3 : decide (b < 0) = false := by simp; omega
  go_enter Try.func29, Try.ntmps29
  go_wp2_with fail
  refine (H.out _).mono ?_; rintro e w1 ⟨rfl, hb1⟩
  go_wp2
  go_ret2
  exact ⟨rfl, hb1⟩

theorem rMod_any (a b : Int) (w : World) :
    Calls Try.prog 29 #[.int .i64 a, .int .i64 b] w fun e w' => e = .returned (Fx.R (Fx.mod a b)) ∧ Below w.heap.size w w' := by
  have H := fun w => rRem_any a b w
  cases hab : Fx.isF a && Fx.isF b
  · rw [show Fx.rem a b = (0, 1) from Fx.two_bad hab] at H
    rw [show Fx.mod a b = (0, 1) from Fx.two_bad hab]
    exact rMod_err a b 1 (.inl rfl) H w
  obtain ⟨ha, hb⟩ : Fx.isF a = true ∧ Fx.isF b = true := by simpa using hab
  by_cases h0 : b = 0
  · rw [show Fx.rem a b = (0, 11) from (Fx.two_ok ha hb).trans (if_pos h0)] at H
    rw [show Fx.mod a b = (0, 11) from (Fx.two_ok ha hb).trans (if_pos h0)]
    exact rMod_err a b 11 (.inr rfl) H w
  have ba := Fx.isF_bd ha
  have bd := Fx.isF_bd hb
  have hr := Fx.tmod_bd a b h0
  have hm := Fx.mod_of_rem a b h0
  rw [show Fx.rem a b = (a.tmod b, 0) from (Fx.two_ok ha hb).trans (if_neg h0)] at H
  rw [show Fx.mod a b = ((a.tmod b + b).tmod b, 0) from (Fx.two_ok ha hb).trans (if_neg h0)]
  generalize (a.tmod b + b).tmod b = m at *
  generalize a.tmod b = r at *
  by_cases hr0 : r = 0
  · subst hr0
    rw [hm, if_neg (by simp)]
    exact rMod_zero a b H w
  rcases Int.lt_or_le r 0 with sr | sr <;> rcases Int.lt_or_le b 0 with sb | sb
  · rw [hm, if_neg (by intro hc; exact hc.2 (by simp; omega))]
    exact rMod_nn a b r ba bd sr sb (by omega) H w
  · rw [hm, if_pos ⟨hr0, by simp; omega⟩]
    exact rMod_np a b r ba bd sr (by omega) (by omega) H w
  · rw [hm, if_pos ⟨hr0, by simp; omega⟩]
    exact rMod_pn a b r ba bd (by omega) sb (by omega) H w
  · rw [hm, if_neg (by intro hc; exact hc.2 (by simp; omega))]
    exact rMod_pp a b r ba bd (by omega) (by omega) (by omega) H w

theorem rGcd_any (a b : Int) (w : World) :
    Calls Try.prog 30 #[.int .i64 a, .int .i64 b] w fun e w' => e = .returned (Fx.R (Fx.gcd a b)) ∧ Below w.heap.size w w' := by
  cases ha : Fx.isF a
  · have e1 := Lib.hid (Fx.two_bad (f := fun a b => Fx.fitsV (Int.gcd a b)) (show (Fx.isF a && Fx.isF b) = false by simp [ha]))
    go_enter Try.func30, Try.ntmps30
    go_wp2_with (go_at_call 24; refine (rIn_any _ _).mono ?_; rintro e w' ⟨rfl, rfl⟩)
    go_ret2
    exact ⟨Fx.R_mk e1.out, Below.refl _ _⟩
  cases hb : Fx.isF b
  · have e1 := Lib.hid (Fx.two_bad (f := fun a b => Fx.fitsV (Int.gcd a b)) (show (Fx.isF a && Fx.isF b) = false by simp [hb]))
    go_enter Try.func30, Try.ntmps30
    go_wp2_with (go_at_call 24; refine (rIn_any _ _).mono ?_; rintro e w' ⟨rfl, rfl⟩)
    go_ret2
    exact ⟨Fx.R_mk e1.out, Below.refl _ _⟩
  have ba := Fx.isF_bd ha
  have bd := Fx.isF_bd hb
  have e1 := Lib.hid (Fx.two_ok (f := fun a b => Fx.fitsV (Int.gcd a b)) ha hb)
  have a1 : a.natAbs ≤ 1152921504606846976 := by omega
  have b1 : b.natAbs ≤ 1152921504606846976 := by omega
  go_enter Try.func30, Try.ntmps30
  go_wp2_with (go_at_call 24; refine (rIn_any _ _).mono ?_; rintro e w' ⟨rfl, rfl⟩)
  refine (rabs_any a _ (by omega)).mono ?_; rintro e w' ⟨rfl, rfl⟩; rw [Fx.abs_nat]
  go_wp2_with fail
  refine (rabs_any b _ (by omega)).mono ?_; rintro e w' ⟨rfl, rfl⟩; rw [Fx.abs_nat]
  go_wp2_with fail
  go_loop [6, 7, 8] (fun x y _ => ∃ m n : Nat, x = .int .i64 m ∧ y = .int .i64 n ∧ m ≤ 1152921504606846976 ∧ n ≤ 1152921504606846976 ∧ Hid (Nat.gcd m n = Int.gcd a b)) (fun _ y _ => (intOf y).toNat)
  case atStart => exact ⟨_, _, rfl, rfl, a1, b1, rfl⟩
  case round =>
    obtain ⟨m, n, rfl, rfl, hm, hn, hg⟩ := hrel
    by_cases h0 : 0 < n
    · have hz : (1 : Int) ≤ (n : Int) := by omega
      have hmod : m % n < n := Nat.mod_lt _ h0
      have hne : ((n : Int) != 0) = true := by simp; omega
      go_wp2
      go_round
      case rel => exact ⟨n, m % n, rfl, rfl, hn, by omega, by
        unfold Hid at hg ⊢
        rw [Nat.gcd_comm, ← Nat.gcd_rec, Nat.gcd_comm]; exact hg⟩
      case measure => simp [intOf]; omega
    · have hz : n = 0 := by omega
      subst hz
      have hgg : Hid (Fx.two (fun a b => Fx.fitsV (Int.gcd a b)) a b = Fx.fitsV m) := by
        unfold Hid at hg e1 ⊢
        rw [e1, ← hg]; simp
      clear hg e1
      go_wp2_with (go_at_call 48; refine (got_any _ _).mono ?_; rintro e w' ⟨rfl, rfl⟩)
      go_ret2
      exact ⟨Fx.R_mk hgg.out, Below.refl _ _⟩
end Go.Proofs.Ytdiadoahcaoinaa
