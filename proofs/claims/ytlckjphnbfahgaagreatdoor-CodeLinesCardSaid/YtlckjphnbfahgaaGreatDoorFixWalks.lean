/-
  The walks of the package fix and of shuttleref01: what each function returns.
-/
import Derived.Test.YtlckjphnbfahgaaGreatDoorRows
import Derived.WalkKit
import Derived.WalkSpells
import Derived.WalkLawsBesides
import Derived.Deep.QuietTactic
import Derived.BigQuiet
import Derived.Lib.Hide
import Derived.Lib.Mul64
import Derived.Laws.Bits64b
namespace Go.Proofs.YtlckjphnbfahgaaGreatDoor
open Go.RowKit

namespace Fx
/-- a fixnum -/
def isF (n : Int) : Bool := decide (-1152921504606846976 ≤ n) && decide (n ≤ 1152921504606846975)
end Fx

theorem In_any (n : Int) (w : World) :
    Calls Tryz.prog 92 #[.int .i64 n] w fun e w' => e = .returned (.bool (Fx.isF n)) ∧ w = w' := by
  by_cases h : -1152921504606846976 ≤ n
  · go_enter Tryz.func92, Tryz.ntmps92
    go_wp2
    go_ret
    exact ⟨by simp [Fx.isF, h], rfl⟩
  · go_enter Tryz.func92, Tryz.ntmps92
    go_wp2
    go_ret
    exact ⟨by simp [Fx.isF]; omega, rfl⟩

/-- fix.all -/
def Fx.allE (f : Nat → Int) (n : Nat) : Int := if (List.range n).all (fun k => Fx.isF (f k)) then 0 else 1
theorem Fx.allE_stop (f : Nat → Int) (n k : Nat) (hk : k < n) (h : Fx.isF (f k) = false) : Fx.allE f n = 1 := by
  unfold Fx.allE
  rw [if_neg]
  simp only [List.all_eq_true, List.mem_range]
  intro H
  have := H k hk
  simp [h] at this
theorem Fx.allE_end (f : Nat → Int) (n : Nat) (h : ∀ k, k < n → Fx.isF (f k) = true) : Fx.allE f n = 0 := by
  unfold Fx.allE
  rw [if_pos]
  simpa using h
theorem Fx.allE_01 (f : Nat → Int) (n : Nat) : Fx.allE f n = 0 ∨ Fx.allE f n = 1 := by
  unfold Fx.allE
  split <;> simp
theorem Fx.ret {k : IntKind} {a b : Int} (h : a = b) : Ending.returned (.int k a) = .returned (.int k b) := by rw [h]
theorem Fx.ret2 {k l : IntKind} {a b c d : Int} (h : a = b) (h' : c = d) : Ending.returned (.tuple #[.int k a, .int l c]) = .returned (.tuple #[.int k b, .int l d]) := by rw [h, h']

namespace Fx
def fitsV (n : Int) : Int × Int := if isF n then (n, 0) else (0, 10)
def two (f : Int → Int → Int × Int) (a b : Int) : Int × Int := if isF a && isF b then f a b else (0, 1)
def add : Int → Int → Int × Int := two fun a b => fitsV (a + b)
def sub : Int → Int → Int × Int := two fun a b => fitsV (a - b)
def quo : Int → Int → Int × Int := two fun a b => if b = 0 then (0, 11) else fitsV (a.tdiv b)
def rem : Int → Int → Int × Int := two fun a b => if b = 0 then (0, 11) else (a.tmod b, 0)
def mod : Int → Int → Int × Int := two fun a b => if b = 0 then (0, 11) else ((a.tmod b + b).tmod b, 0)
theorem two_bad {f : Int → Int → Int × Int} {a b : Int} (h : (isF a && isF b) = false) : two f a b = (0, 1) := by simp [two, h]
theorem two_ok {f : Int → Int → Int × Int} {a b : Int} (ha : isF a = true) (hb : isF b = true) : two f a b = f a b := by simp [two, ha, hb]
theorem isF_bd {a : Int} (h : isF a = true) : -1152921504606846976 ≤ a ∧ a ≤ 1152921504606846975 := by simpa [isF] using h
theorem isF_mk {a : Int} (h : -1152921504606846976 ≤ a ∧ a ≤ 1152921504606846975) : isF a = true := by simpa [isF] using h
theorem tdiv_bd (a b : Int) : -a.natAbs ≤ a.tdiv b ∧ a.tdiv b ≤ a.natAbs := by
  have h1 := Int.natAbs_tdiv_le_natAbs a b
  omega
theorem tmod_bd (a b : Int) (h : b ≠ 0) : -b.natAbs < a.tmod b ∧ a.tmod b < b.natAbs := by
  have h1 : (a.tmod b).natAbs < b.natAbs := by rw [Int.natAbs_tmod]; exact Nat.mod_lt _ (by omega)
  omega
theorem wrap_tdiv (a b : Int) (ha : -1152921504606846976 ≤ a ∧ a ≤ 1152921504606846975) (_hb : -1152921504606846976 ≤ b ∧ b ≤ 1152921504606846975) (_h : b ≠ 0) : wrap64 (a.tdiv b) = a.tdiv b := by
  have := tdiv_bd a b
  exact IntWalk.wrap64_in _ (by omega)
theorem wrap_tmod (a b : Int) (_ha : -1152921504606846976 ≤ a ∧ a ≤ 1152921504606846975) (hb : -1152921504606846976 ≤ b ∧ b ≤ 1152921504606846975) (h : b ≠ 0) : wrap64 (a.tmod b) = a.tmod b := by
  have := tmod_bd a b h
  exact IntWalk.wrap64_in _ (by omega)
theorem tmod_bd2 (a b : Int) (hb : -1152921504606846976 ≤ b ∧ b ≤ 1152921504606846975) (h : b ≠ 0) : -1152921504606846976 < a.tmod b ∧ a.tmod b < 1152921504606846976 := by
  have := tmod_bd a b h
  omega
theorem wrap_tmod2 (a b : Int) (hb : -1152921504606846976 ≤ b ∧ b ≤ 1152921504606846975) (h : b ≠ 0) : wrap64 ((a.tmod b + b).tmod b) = (a.tmod b + b).tmod b := by
  have := tmod_bd2 (a.tmod b + b) b hb h
  exact IntWalk.wrap64_in _ (by omega)
def abs (a : Int) : Int := if a < 0 then -a else a
theorem abs_bd {a : Int} (h : -1152921504606846976 ≤ a ∧ a ≤ 1152921504606846976) : 0 ≤ abs a ∧ abs a ≤ 1152921504606846976 := by unfold abs; split <;> omega
def signedV (high low : Int) (minus : Bool) : Int × Int := if high ≠ 0 ∨ 1152921504606846976 < low then (0, 10) else fitsV (if minus then -low else low)
/-- the pair as the walk's value -/
def R (p : Int × Int) : Value := .tuple #[.int .i64 p.1, .int .i64 p.2]
theorem R_mk {p : Int × Int} {a b : Int} (h : p = (a, b)) : Ending.returned (.tuple #[.int .i64 a, .int .i64 b]) = .returned (R p) := by rw [h]; rfl
end Fx

theorem size_any (a : Int) (w : World) (h : -1152921504606846976 ≤ a ∧ a ≤ 1152921504606846976) :
    Calls Tryz.prog 104 #[.int .i64 a] w fun e w' => e = .returned (.int .u64 (Fx.abs a)) ∧ w = w' := by
  by_cases h0 : a < 0
  · go_enter Tryz.func104, Tryz.ntmps104
    go_wp2
    go_ret
    refine ⟨Fx.ret ?_, rfl⟩
    simp [Fx.abs, h0]
  · go_enter Tryz.func104, Tryz.ntmps104
    go_wp2
    go_ret
    refine ⟨Fx.ret ?_, rfl⟩
    simp [Fx.abs]
    omega

namespace Fx
theorem maskN (a : Nat) (ha : a < 18446744073709551616) : bits .and .u64 (a : Int) 4294967295 = ((a % 4294967296 : Nat) : Int) := by
  have h := bits_and_u64_nat a 4294967295 ha (by omega)
  have e : a &&& 4294967295 = a % 4294967296 := Nat.and_two_pow_sub_one_eq_mod a 32
  rw [e] at h
  exact h
theorem divN (a : Nat) : (a : Int) / 4294967296 = ((a / 4294967296 : Nat) : Int) := by omega
theorem mulN (a b : Nat) : (a : Int) * (b : Int) = ((a * b : Nat) : Int) := (Int.natCast_mul a b).symm
theorem addN (a b : Nat) : (a : Int) + (b : Int) = ((a + b : Nat) : Int) := (Int.natCast_add a b).symm
theorem wrapN (a : Nat) (ha : a < 18446744073709551616) : IntKind.u64.wrap (a : Int) = (a : Int) := by rw [IntKind.wrap_u64]; omega
theorem wrapM (a : Nat) : IntKind.u64.wrap (a : Int) = ((a % 18446744073709551616 : Nat) : Int) := by rw [IntKind.wrap_u64]; omega
end Fx
set_option maxHeartbeats 1000000 in
theorem Mul64_nat (x y : Nat) (hx : x < 18446744073709551616) (hy : y < 18446744073709551616) (w : World) :
    Calls Tryz.prog 83 #[.int .u64 x, .int .u64 y] w fun e w' => e = .returned (.tuple #[.int .u64 ((x * y / 18446744073709551616 : Nat) : Int), .int .u64 ((x * y % 18446744073709551616 : Nat) : Int)]) ∧ w = w' := by
  obtain ⟨bd, bt, bw, hhi⟩ := Lib.mul64_hi x y hx hy
  have ba := Lib.half_mul_le (a := x / 4294967296) (b := y / 4294967296) (by omega) (by omega)
  have bb := Lib.half_mul_le (a := x / 4294967296) (b := y % 4294967296) (by omega) (by omega)
  have bc := Lib.half_mul_le (a := x % 4294967296) (b := y / 4294967296) (by omega) (by omega)
  have ba' : x / 4294967296 * (y / 4294967296) < 18446744073709551616 := by omega
  have bb' : x / 4294967296 * (y % 4294967296) < 18446744073709551616 := by omega
  have bc' : x % 4294967296 * (y / 4294967296) < 18446744073709551616 := by omega
  have bh1 : x / 4294967296 * (y / 4294967296) + (x / 4294967296 * (y % 4294967296) + x % 4294967296 * (y % 4294967296) / 4294967296) / 4294967296 < 18446744073709551616 := by omega
  have bh : x / 4294967296 * (y / 4294967296) + (x / 4294967296 * (y % 4294967296) + x % 4294967296 * (y % 4294967296) / 4294967296) / 4294967296 + ((x / 4294967296 * (y % 4294967296) + x % 4294967296 * (y % 4294967296) / 4294967296) % 4294967296 + x % 4294967296 * (y / 4294967296)) / 4294967296 < 18446744073709551616 := by omega
  go_enter Tryz.func83, Tryz.ntmps83
  go_wp2
  simp only [Fx.maskN x hx, Fx.maskN y hy, Fx.divN, Fx.mulN, Fx.addN, Fx.wrapN _ bd, Fx.wrapN _ bb', Fx.wrapN _ bt, Fx.maskN _ bt, Fx.wrapN _ bc', Fx.wrapN _ bw, Fx.wrapN _ ba', Fx.wrapN _ bh1, Fx.wrapN _ bh, Fx.wrapM]
  rw [hhi]
  go_ret2
  exact ⟨rfl, rfl⟩
theorem Mul64_any (x y : Int) (hx : 0 ≤ x) (hx' : x < 18446744073709551616) (hy : 0 ≤ y) (hy' : y < 18446744073709551616) (w : World) :
    Calls Tryz.prog 83 #[.int .u64 x, .int .u64 y] w fun e w' => e = .returned (.tuple #[.int .u64 (x * y / 18446744073709551616), .int .u64 (x * y % 18446744073709551616)]) ∧ w = w' := by
  obtain ⟨x, rfl⟩ := Int.eq_ofNat_of_zero_le hx
  obtain ⟨y, rfl⟩ := Int.eq_ofNat_of_zero_le hy
  have h := Mul64_nat x y (by omega) (by omega) w
  simpa using h

namespace Fx
def mul : Int → Int → Int × Int := two fun a b => fitsV (a * b)
/-- the product by sizes is the product -/
theorem signedV_mul (a b : Int) : signedV (abs a * abs b / 18446744073709551616) (abs a * abs b % 18446744073709551616) (!decide (a < 0) == decide (b < 0)) = fitsV (a * b) := by
  have key : ∀ p : Int, 0 ≤ p → ∀ m : Bool, signedV (p / 18446744073709551616) (p % 18446744073709551616) m = fitsV (if m then -p else p) := by
    intro p hp m
    by_cases h : p < 18446744073709551616
    · have e1 : p / 18446744073709551616 = 0 := by omega
      have e2 : p % 18446744073709551616 = p := by omega
      rw [e1, e2]
      by_cases hl : 1152921504606846976 < p
      · have : isF (if m then -p else p) = false := by cases m <;> simp [isF] <;> omega
        simp [signedV, hl, fitsV, this]
      · simp [signedV, hl]
    · have e1 : p / 18446744073709551616 ≠ 0 := by omega
      have : isF (if m then -p else p) = false := by cases m <;> simp [isF] <;> omega
      simp [signedV, e1, fitsV, this]
  have hp : 0 ≤ abs a * abs b := Int.mul_nonneg (by unfold abs; split <;> omega) (by unfold abs; split <;> omega)
  rw [key _ hp]
  congr 1
  unfold abs
  by_cases ha : a < 0 <;> by_cases hb : b < 0 <;> simp [ha, hb, Int.neg_mul, Int.mul_neg]
theorem abs_mul_nn (a b : Int) : 0 ≤ abs a * abs b / 18446744073709551616 ∧ 0 ≤ abs a * abs b % 18446744073709551616 := by
  have hp : 0 ≤ abs a * abs b := Int.mul_nonneg (by unfold abs; split <;> omega) (by unfold abs; split <;> omega)
  omega
end Fx
namespace Fx
def gcd : Int → Int → Int × Int := two fun a b => fitsV (Int.gcd a b)
theorem signedV_gcd (a b : Int) (n : Nat) (h : (n : Int) = Int.gcd a b) (hb : n ≤ 1152921504606846976) : signedV 0 n false = fitsV (Int.gcd a b) := by
  rw [← h]
  exact if_neg (by omega)
theorem abs_nat (a : Int) : abs a = (a.natAbs : Int) := by unfold abs; split <;> omega
end Fx
end Go.Proofs.YtlckjphnbfahgaaGreatDoor
