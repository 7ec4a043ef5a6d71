/-
  The walks of the reference's digits, number and line.
-/
import Derived.Test.YtomggdeinjediaaDoorScParse
import Derived.Test.YtomggdeinjediaaDoorFixTextR
namespace Go.Proofs.YtomggdeinjediaaDoor
open Go.RowKit Go.Sort
namespace Sc
theorem val_le (s : List UInt8) : ∀ (j k : Nat), j ≤ k → k ≤ s.length → Fx.val (s.take j) ≤ Fx.val (s.take k) := by
  intro j k hjk
  induction k with
  | zero =>
    intro _
    obtain rfl : j = 0 := by omega
    exact Nat.le_refl _
  | succ k ih =>
    intro hk
    by_cases e : j = k + 1
    · rw [e]; exact Nat.le_refl _
    · have := ih (by omega) (by omega)
      rw [List.take_succ_eq_append_getElem (by omega), Fx.val_snoc]
      omega
theorem numR_dig (s : ByteArray) (k : Nat) (hk : k < s.size) (h : Fx.isD s[k] = false) : numR s.data.toList = -1 := by
  apply Classical.byContradiction
  intro hn
  have := (numR_of _ hn).1
  rw [List.all_eq_true] at this
  have h2 := this s[k] (by have h := List.getElem_mem (l := s.data.toList) (n := k) (by rw [Fx.size_toList]; exact hk); exact h)
  rw [h] at h2
  cases h2
theorem numR_big (s : ByteArray) (k : Nat) (hk : k ≤ s.size) (h : 1000000 < Fx.val (s.data.toList.take k)) : numR s.data.toList = -1 := by
  apply Classical.byContradiction
  intro hn
  have h1 := (numR_of _ hn).2.1
  have h2 := val_le s.data.toList k s.size hk (by rw [Fx.size_toList]; exact Nat.le_refl _)
  have hfull : s.data.toList.take s.size = s.data.toList := List.take_of_length_le (by rw [Fx.size_toList]; exact Nat.le_refl _)
  rw [hfull] at h2
  omega
theorem isD_int (c : UInt8) : Fx.isD c = (!(decide ((c.toNat : Int) < 48)) && !(decide (57 < (c.toNat : Int)))) := by
  unfold Fx.isD
  rw [Bool.eq_iff_iff]
  simp
  omega
end Sc
namespace Sc
/-- what the reference's line comes to -/
def LinePost (s : ByteArray) (n : Nat) (w : World) (e : Ending) (w' : World) : Prop :=
  w = w' ∧ ((∃ (a : ByteArray) (m : Nat), (s.data.toList.drop n).contains 10 = true ∧ e = .returned (.tuple #[.string a, .int .i64 m, .bool true]) ∧ a.data.toList = (s.data.toList.drop n).takeWhile (· != 10) ∧ n < m ∧ m ≤ s.size ∧ s.data.toList.drop m = ((s.data.toList.drop n).dropWhile (· != 10)).tail)
    ∨ ((s.data.toList.drop n).contains 10 = false ∧ e = .returned (.tuple #[.string ⟨#[]⟩, .int .i64 n, .bool false])))
end Sc
end Go.Proofs.YtomggdeinjediaaDoor
