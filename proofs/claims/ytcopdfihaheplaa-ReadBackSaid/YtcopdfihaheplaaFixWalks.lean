/-
 The walks of the package fix and of shuttleref01: what each function returns.
-/
import Derived.Test.YtcopdfihaheplaaRows
import Derived.WalkKit
import Derived.WalkSpells
import Derived.WalkLawsBesides
import Derived.Deep.QuietTactic
import Derived.BigQuiet
import Derived.Lib.Hide
import Derived.Lib.Mul64
import Derived.Laws.Bits64b
namespace Go.Proofs.Ytcopdfihaheplaa
open Go.RowKit
namespace Fx
def isF (n : Int) : Bool := decide (-1152921504606846976 ≤ n) && decide (n ≤ 1152921504606846975)
end Fx
theorem In_any (n : Int) (w : World) :
  Calls Try.prog 73 #[.int .i64 n] w fun e w' => e = .returned (.bool (Fx.isF n)) ∧ w = w' := by
 by_cases h : -1152921504606846976 ≤ n
 ·go_enter Try.func73, Try.ntmps73
  go_wp2
  go_ret
  exact ⟨by simp [Fx.isF, h], rfl⟩
 ·go_enter Try.func73, Try.ntmps73
  go_wp2
  go_ret
  exact ⟨by simp [Fx.isF]; omega, rfl⟩
theorem fits_yes (n : Int) (w : World) (h : Fx.isF n = true) :
  Calls Try.prog 106 #[.int .i64 n] w fun e w' => e = .returned (.tuple #[.int .i64 n, .int .i64 0]) ∧ w = w' := by
 go_enter Try.func106, Try.ntmps106
 go_wp2_with (go_at_call 73; refine (In_any _ _).mono ?_; rintro e w' ⟨rfl, rfl⟩)
 go_ret2
 exact ⟨rfl, rfl⟩
theorem fits_no (n : Int) (w : World) (h : Fx.isF n = false) :
  Calls Try.prog 106 #[.int .i64 n] w fun e w' => e = .returned (.tuple #[.int .i64 0, .int .i64 10]) ∧ w = w' := by
 go_enter Try.func106, Try.ntmps106
 go_wp2_with (go_at_call 73; refine (In_any _ _).mono ?_; rintro e w' ⟨rfl, rfl⟩)
 go_ret2
 exact ⟨rfl, rfl⟩
theorem Fx.ret {k : IntKind} {a b : Int} (h : a = b) : Ending.returned (.int k a) = .returned (.int k b) := by rw [h]
theorem Fx.ret2 {k l : IntKind} {a b c d : Int} (h : a = b) (h' : c = d) : Ending.returned (.tuple #[.int k a, .int l c]) = .returned (.tuple #[.int k b, .int l d]) := by rw [h, h']
namespace Fx
def fitsV (n : Int) : Int × Int := if isF n then (n, 0) else (0, 10)
def two (f : Int → Int → Int × Int) (a b : Int) : Int × Int := if isF a && isF b then f a b else (0, 1)
def add : Int → Int → Int × Int := two fun a b => fitsV (a + b)
theorem isF_bd {a : Int} (h : isF a = true) : -1152921504606846976 ≤ a ∧ a ≤ 1152921504606846975 := by simpa [isF] using h
theorem isF_mk {a : Int} (h : -1152921504606846976 ≤ a ∧ a ≤ 1152921504606846975) : isF a = true := by simpa [isF] using h
def abs (a : Int) : Int := if a < 0 then -a else a
def signedV (high low : Int) (minus : Bool) : Int × Int := if high ≠ 0 ∨ 1152921504606846976 < low then (0, 10) else fitsV (if minus then -low else low)
def R (p : Int × Int) : Value := .tuple #[.int .i64 p.1, .int .i64 p.2]
theorem R_mk {p : Int × Int} {a b : Int} (h : p = (a, b)) : Ending.returned (.tuple #[.int .i64 a, .int .i64 b]) = .returned (R p) := by rw [h]; rfl
end Fx
theorem fits_any (n : Int) (w : World) :
  Calls Try.prog 106 #[.int .i64 n] w fun e w' => e = .returned (.tuple #[.int .i64 (Fx.fitsV n).1, .int .i64 (Fx.fitsV n).2]) ∧ w = w' := by
 cases h : Fx.isF n
 ·have e : Fx.fitsV n = (0, 10) := by simp [Fx.fitsV, h]
  rw [e]; exact fits_no n w h
 ·have e : Fx.fitsV n = (n, 0) := by simp [Fx.fitsV, h]
  rw [e]; exact fits_yes n w h
theorem size_any (a : Int) (w : World) (h : -1152921504606846976 ≤ a ∧ a ≤ 1152921504606846976) :
  Calls Try.prog 99 #[.int .i64 a] w fun e w' => e = .returned (.int .u64 (Fx.abs a)) ∧ w = w' := by
 by_cases h0 : a < 0
 ·go_enter Try.func99, Try.ntmps99
  go_wp2
  go_ret
  refine ⟨Fx.ret ?_, rfl⟩
  simp [Fx.abs, h0]
 ·go_enter Try.func99, Try.ntmps99
  go_wp2
  go_ret
  refine ⟨Fx.ret ?_, rfl⟩
  simp [Fx.abs]
  omega
theorem signed_any (high low : Int) (minus : Bool) (w : World) (h1 : 0 ≤ high) (h2 : 0 ≤ low) :
  Calls Try.prog 103 #[.int .u64 high, .int .u64 low, .bool minus] w fun e w' => e = .returned (Fx.R (Fx.signedV high low minus)) ∧ w = w' := by
 by_cases hh : high = 0
 ·subst hh
  by_cases hl : 1152921504606846976 < low
  ·have e1 := Lib.hid (show Fx.signedV 0 low minus = (0, 10) from if_pos (.inr hl))
   go_enter Try.func103, Try.ntmps103
   go_wp2
   go_ret2
   exact ⟨Fx.R_mk e1.out, rfl⟩
  ·cases minus
   ·have e1 := Lib.hid (show Fx.signedV 0 low false = Fx.fitsV low from if_neg (by omega))
    go_enter Try.func103, Try.ntmps103
    go_wp2_with (go_at_call 106; refine (fits_any _ _).mono ?_; rintro e w' ⟨rfl, rfl⟩)
    go_ret2
    exact ⟨Fx.R_mk e1.out, rfl⟩
   ·have e1 := Lib.hid (show Fx.signedV 0 low true = Fx.fitsV (-low) from if_neg (by omega))
    go_enter Try.func103, Try.ntmps103
    go_wp2_with (go_at_call 106; refine (fits_any _ _).mono ?_; rintro e w' ⟨rfl, rfl⟩)
    go_ret2
    exact ⟨Fx.R_mk e1.out, rfl⟩
 ·have hb : (high != 0) = true := by simpa using hh
  have e1 := Lib.hid (show Fx.signedV high low minus = (0, 10) from if_pos (.inl hh))
  clear hh
  go_enter Try.func103, Try.ntmps103
  go_wp2
  go_ret2
  exact ⟨Fx.R_mk e1.out, rfl⟩
namespace Fx
end Fx
namespace Fx
def mul : Int → Int → Int × Int := two fun a b => fitsV (a * b)
end Fx
namespace Fx
theorem abs_nat (a : Int) : abs a = (a.natAbs : Int) := by unfold abs; split <;> omega
end Fx
end Go.Proofs.Ytcopdfihaheplaa
