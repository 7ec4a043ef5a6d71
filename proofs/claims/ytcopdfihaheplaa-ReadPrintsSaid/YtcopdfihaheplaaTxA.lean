/-
 The small functions of a word's text: two, kinds.
-/
import Derived.Test.YtcopdfihaheplaaTxM
namespace Go.Proofs.Ytcopdfihaheplaa
open Go.RowKit
set_option maxRecDepth 100000 in
set_option maxHeartbeats 1000000 in
theorem kindsR_any (k : Int) (w : World) :
  Calls Try.prog 94 #[.int .i64 k] w fun e w' => e = .returned (.int .i64 (Tx.kind k)) ∧ w = w' := by
 have hk : Tx.kind k = if k = 9 then 1 else if k = 10 then 2 else if k = 11 then 3 else if k = 12 then 4 else if k = 13 then 5 else 0 := rfl
 have HK := Lib.hid hk
 clear hk
 go_enter Try.func94, Try.ntmps94
 go_wp2
 all_goals
  go_ret
  rw [HK.out]
  exact ⟨by simp_all, rfl⟩
set_option maxRecDepth 100000 in
set_option maxHeartbeats 2000000 in
theorem twoR_any (c : Nat) (hc : c < 256) (w : World) :
  Calls Try.prog 105 #[.int .i64 (c : Int)] w fun e w' => e = .returned (.string (Tx.two c)) ∧ Below w.heap.size w w' := by
 have q0 : IntKind.i64.wrap ((c : Int).tdiv 16) = ((c / 16 : Nat) : Int) := by
  rw [IntKind.wrap_i64]
  have : (c : Int).tdiv 16 = ((c / 16 : Nat) : Int) := by rw [Int.tdiv_eq_ediv_of_nonneg (by omega)]; omega
  rw [this]; omega
 have r0 : (c : Int).tmod 16 = ((c % 16 : Nat) : Int) := by rw [Int.tmod_eq_emod_of_nonneg (by omega)]; omega
 have h1 : c / 16 < 16 := by omega
 have h2 : c % 16 < 16 := by omega
 go_enter Try.func105, Try.ntmps105
 have a1 : IntKind.i64.wrap (((c / 16 : Nat) : Int) + 1) = ((c / 16 + 1 : Nat) : Int) := by rw [IntKind.wrap_i64]; omega
 have a2 : IntKind.i64.wrap (((c % 16 : Nat) : Int) + 1) = ((c % 16 + 1 : Nat) : Int) := by rw [IntKind.wrap_i64]; omega
 go_wp2_with fail
 go_quiet (fail)
 go_wp2
 go_ret
 exact ⟨rfl, below_drewN (Below.refl _ _) _⟩
end Go.Proofs.Ytcopdfihaheplaa
