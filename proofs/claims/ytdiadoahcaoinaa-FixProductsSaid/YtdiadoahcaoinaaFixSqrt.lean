/-
  The walks of both Sqrt; of Sum and Prod.
-/
import Derived.Test.YtdiadoahcaoinaaFixPowR
import Derived.Laws.ShiftsVarLaws
namespace Go.Proofs.Ytdiadoahcaoinaa
open Go.RowKit

namespace Fx
theorem ofInt_i64 (a : Nat) (ha : a < 9223372036854775808) : (BitVec.ofInt 64 (a : Int)).toNat = a := by
  rw [BitVec.ofInt_natCast, BitVec.toNat_ofNat]; exact Nat.mod_eq_of_lt (by omega)
theorem i64_or_nat (a b : Nat) (ha : a < 9223372036854775808) (hb : b < 9223372036854775808) : bits .or .i64 (a : Int) (b : Int) = ((a ||| b : Nat) : Int) := by
  have hx : a ||| b < 2 ^ 63 := Nat.or_lt_two_pow (by omega) (by omega)
  show IntKind.i64.wrap ((BitVec.ofInt 64 (a : Int) ||| BitVec.ofInt 64 (b : Int)).toNat : Int) = _
  rw [BitVec.toNat_or, ofInt_i64 a ha, ofInt_i64 b hb, IntKind.wrap_i64]
  omega
theorem bit_eq (a k x : Nat) (hk : k < 30) (h : SQ a k x) : bits .or .i64 (x : Int) (wrap64 (2 ^ (29 - k))) = ((x + 2 ^ (29 - k) : Nat) : Int) := by
  have hb := SQ_bd a k x hk h
  have ho := SQ_or a k x hk h
  have e : ((2 : Int) ^ (29 - k)) = ((2 ^ (29 - k) : Nat) : Int) := by simp
  rw [e]
  generalize (2 ^ (29 - k) : Nat) = p at *
  rw [IntWalk.wrap64_in _ (by omega), i64_or_nat _ _ (by omega) (by omega), ho]
end Fx
theorem all_one_ok (a : Int) (ad : Nat) (w : World) (ha : Fx.isF a = true) (h0 : w.cell? ⟨ad, 0, none⟩ = some (.int .i64 a)) :
    Calls Try.prog 47 #[.slice (some ⟨ad, 0, none⟩) 1 1] w fun e w' => e = .returned (.int .i64 0) ∧ w = w' := by
  have h := all_any (fun _ => a) 1 ad w (by omega) (fun k hk => by
    obtain rfl : k = 0 := by omega
    exact h0)
  rw [Fx.allE_end _ _ (fun k _ => ha)] at h
  exact h
theorem all_one_bad (a : Int) (ad : Nat) (w : World) (ha : Fx.isF a = false) (h0 : w.cell? ⟨ad, 0, none⟩ = some (.int .i64 a)) :
    Calls Try.prog 47 #[.slice (some ⟨ad, 0, none⟩) 1 1] w fun e w' => e = .returned (.int .i64 1) ∧ w = w' := by
  have h := all_any (fun _ => a) 1 ad w (by omega) (fun k hk => by
    obtain rfl : k = 0 := by omega
    exact h0)
  rw [Fx.allE_stop _ _ 0 (by omega) ha] at h
  exact h
theorem Sqrt_any (a : Int) (w : World) :
    Calls Try.prog 43 #[.int .i64 a] w fun e w' => e = .returned (Fx.R (Fx.sqrt a)) ∧ Below w.heap.size w w' := by
  cases ha : Fx.isF a
  · have e1 : Hid (Fx.sqrt a = (0, 1)) := by show Fx.sqrt a = (0, 1); simp [Fx.sqrt, ha]
    go_enter Try.func43, Try.ntmps43
    go_wp2_with (go_at_call 47; refine (all_one_bad a _ _ ha (by simp [go_sem])).mono ?_; rintro e w' ⟨rfl, rfl⟩)
    go_ret2
    exact ⟨Fx.R_mk e1.out, (Below.refl _ _).alloc (Nat.le_refl _) _⟩
  by_cases h0 : a < 0
  · have e1 : Hid (Fx.sqrt a = (0, 1)) := by show Fx.sqrt a = (0, 1); simp [Fx.sqrt, ha]; omega
    go_enter Try.func43, Try.ntmps43
    go_wp2_with (go_at_call 47; refine (all_one_ok a _ _ ha (by simp [go_sem])).mono ?_; rintro e w' ⟨rfl, rfl⟩)
    go_ret2
    exact ⟨Fx.R_mk e1.out, (Below.refl _ _).alloc (Nat.le_refl _) _⟩
  obtain ⟨a, rfl⟩ := Int.eq_ofNat_of_zero_le (Int.not_lt.1 h0)
  have ba := Fx.isF_bd ha
  have e1 : Hid (Fx.sqrt a = ((Fx.sq a : Int), 0)) := by show Fx.sqrt a = _; simp [Fx.sqrt, ha]
  go_enter Try.func43, Try.ntmps43
  go_wp2_with (go_at_call 47; refine (all_one_ok a _ _ ha (by simp [go_sem])).mono ?_; rintro e w' ⟨rfl, rfl⟩)
  go_loop [5, 6, 7, 17] (fun r _ _ i => ∃ k x : Nat, k ≤ 30 ∧ i = .int .i64 k ∧ r = .int .i64 x ∧ x < 1073741824 ∧ Hid (Fx.SQ a k x)) (fun _ _ _ i => 30 - (intOf i).toNat)
  case atStart => exact ⟨0, 0, by omega, rfl, rfl, by omega, Fx.SQ_start a (by omega)⟩
  case round =>
    obtain ⟨k, x, hk, rfl, rfl, hx, HS⟩ := hrel
    by_cases hlt : k < 30
    · have hk29 : k ≤ 29 := by omega
      have hbit := Fx.bit_eq a k x hlt HS.out
      have hy := Fx.SQ_bd a k x hlt HS.out
      have HY := Lib.hid (Fx.SQ_yes a k x hlt HS.out)
      have HN := Lib.hid (Fx.SQ_no a k x hlt HS.out)
      generalize x + 2 ^ (29 - k) = y at *
      have hyy : y * y ≤ 1073741823 * 1073741823 := Nat.mul_le_mul (by omega) (by omega)
      have hyi : 0 ≤ (y : Int) * (y : Int) ∧ (y : Int) * (y : Int) ≤ 1152921504606846976 := by
        rw [← Int.natCast_mul]; omega
      clear hyy
      by_cases hc : y * y ≤ a
      · have hc' : (y : Int) * (y : Int) ≤ (a : Int) := by rw [← Int.natCast_mul]; omega
        have HC := Lib.hid hc
        clear hc
        go_wp2
        go_round
        case rel => exact ⟨k + 1, y, by omega, by go_num, rfl, hy, HY.out HC.out⟩
        case measure => simp [intOf]; omega
      · have hc' : (a : Int) < (y : Int) * (y : Int) := by rw [← Int.natCast_mul]; omega
        have HC := Lib.hid hc
        clear hc
        go_wp2
        go_round
        case rel => exact ⟨k + 1, x, by omega, by go_num, rfl, hx, HN.out (Nat.not_le.1 HC.out)⟩
        case measure => simp [intOf]; omega
    · obtain rfl : k = 30 := by omega
      have e2 : Hid (Fx.sqrt a = ((x : Int), 0)) := e1.out.trans (by rw [Fx.SQ_end a x HS.out])
      clear e1
      go_wp2
      go_ret2
      exact ⟨Fx.R_mk e2.out, (Below.refl _ _).alloc (Nat.le_refl _) _⟩
theorem rSqrt_any (a : Int) (w : World) :
    Calls Try.prog 44 #[.int .i64 a] w fun e w' => e = .returned (Fx.R (Fx.sqrt a)) ∧ Below w.heap.size w w' := by
  cases ha : Fx.isF a
  · have e1 : Hid (Fx.sqrt a = (0, 1)) := by show Fx.sqrt a = (0, 1); simp [Fx.sqrt, ha]
    go_enter Try.func44, Try.ntmps44
    go_wp2_with (go_at_call 24; refine (rIn_any _ _).mono ?_; rintro e w' ⟨rfl, rfl⟩)
    go_ret2
    exact ⟨Fx.R_mk e1.out, Below.refl _ _⟩
  by_cases h0 : a < 0
  · have e1 : Hid (Fx.sqrt a = (0, 1)) := by show Fx.sqrt a = (0, 1); simp [Fx.sqrt, ha]; omega
    go_enter Try.func44, Try.ntmps44
    go_wp2_with (go_at_call 24; refine (rIn_any _ _).mono ?_; rintro e w' ⟨rfl, rfl⟩)
    go_ret2
    exact ⟨Fx.R_mk e1.out, Below.refl _ _⟩
  obtain ⟨a, rfl⟩ := Int.eq_ofNat_of_zero_le (Int.not_lt.1 h0)
  have ba := Fx.isF_bd ha
  have e1 : Hid (Fx.sqrt a = ((Fx.sq a : Int), 0)) := by show Fx.sqrt a = _; simp [Fx.sqrt, ha]
  go_enter Try.func44, Try.ntmps44
  go_wp2_with (go_at_call 24; refine (rIn_any _ _).mono ?_; rintro e w' ⟨rfl, rfl⟩)
  go_loop [4, 5, 6] (fun l h _ => ∃ x y : Nat, x < y ∧ y ≤ 2147483648 ∧ l = .int .i64 x ∧ h = .int .i64 y ∧ Hid (x * x ≤ a ∧ a < y * y)) (fun l h _ => (intOf h - intOf l).toNat)
  case atStart => exact ⟨0, 2147483648, by omega, by omega, rfl, rfl, by
    unfold Hid
    refine ⟨by omega, ?_⟩
    have : (2147483648 * 2147483648 : Nat) = 4611686018427387904 := by decide
    omega⟩
  case round =>
    obtain ⟨x, y, hxy, hy, rfl, rfl, HS⟩ := hrel
    by_cases hlt : 1 < (y : Int) - (x : Int)
    · obtain ⟨m, hm⟩ : ∃ m, m = (x + y) / 2 := ⟨_, rfl⟩
      have hm1 : x < m ∧ m < y := by omega
      have hme : ((x : Int) + (y : Int)) / 2 = (m : Int) := by omega
      clear hm
      have hmm : m * m ≤ 2147483648 * 2147483648 := Nat.mul_le_mul (by omega) (by omega)
      have hmi : 0 ≤ (m : Int) * (m : Int) ∧ (m : Int) * (m : Int) ≤ 4611686018427387904 := by
        rw [← Int.natCast_mul]; omega
      clear hmm
      by_cases hc : m * m ≤ a
      · have hc' : (m : Int) * (m : Int) ≤ (a : Int) := by rw [← Int.natCast_mul]; omega
        have HC := Lib.hid hc
        clear hc
        go_wp2
        go_round
        case rel => exact ⟨m, y, by omega, hy, by rw [hme], rfl, ⟨HC.out, HS.out.2⟩⟩
        case measure => simp [intOf]; omega
      · have hc' : (a : Int) < (m : Int) * (m : Int) := by rw [← Int.natCast_mul]; omega
        have HC := Lib.hid hc
        clear hc
        go_wp2
        go_round
        case rel => exact ⟨x, m, by omega, by omega, rfl, by rw [hme], ⟨HS.out.1, Nat.not_le.1 HC.out⟩⟩
        case measure => simp [intOf]; omega
    · have hyx : y = x + 1 := by omega
      have e2 : Hid (Fx.sqrt a = ((x : Int), 0)) := e1.out.trans (by rw [Fx.sq_of a x HS.out.1 (by rw [← hyx]; exact HS.out.2)])
      clear e1 hyx
      go_wp2
      go_ret2
      exact ⟨Fx.R_mk e2.out, Below.refl _ _⟩
end Go.Proofs.Ytdiadoahcaoinaa
