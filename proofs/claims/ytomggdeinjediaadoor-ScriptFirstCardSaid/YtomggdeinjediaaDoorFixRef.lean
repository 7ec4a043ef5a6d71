/-
  The walks of shuttleref01 (the document's answer of layer 1): what each function returns.
-/
import Derived.Test.YtomggdeinjediaaDoorFixWalks
namespace Go.Proofs.YtomggdeinjediaaDoor
open Go.RowKit

namespace Fx
theorem div_mul_le (m y : Int) (hy : 0 < y) : m / y * y ≤ m := Int.ediv_mul_le m (by omega)
theorem abs_mul (a b : Int) : abs a * abs b = abs (a * b) := by
  unfold abs
  rcases Int.lt_or_le a 0 with ha | ha <;> rcases Int.lt_or_le b 0 with hb | hb
  · have := Int.mul_pos_of_neg_of_neg ha hb
    rw [if_pos ha, if_pos hb, if_neg (by omega)]; simp [Int.neg_mul, Int.mul_neg]
  · rw [if_pos ha, if_neg (by omega)]
    rcases Int.lt_or_eq_of_le hb with hb | hb
    · have := Int.mul_neg_of_neg_of_pos ha hb
      rw [if_pos (by omega)]; simp [Int.neg_mul]
    · subst hb; simp
  · rw [if_neg (by omega), if_pos hb]
    rcases Int.lt_or_eq_of_le ha with ha | ha
    · have := Int.mul_neg_of_pos_of_neg ha hb
      rw [if_pos (by omega)]; simp [Int.mul_neg]
    · subst ha; simp
  · have := Int.mul_nonneg ha hb
    rw [if_neg (by omega), if_neg (by omega), if_neg (by omega)]
/-- how great a product of the two signs may be -/
def most (a b : Int) : Int := if (a < 0) = (b < 0) then 1152921504606846975 else 1152921504606846976
theorem mul_sign (a b : Int) (ha : a ≠ 0) (hb : b ≠ 0) : (a * b < 0) = ((a < 0) ≠ (b < 0)) := by
  apply propext
  rcases Int.lt_or_le a 0 with h | h <;> rcases Int.lt_or_le b 0 with k | k
  · have := Int.mul_pos_of_neg_of_neg h k
    simp [h, k]; omega
  · have := Int.mul_neg_of_neg_of_pos (a := a) (b := b) h (by omega)
    simp [h, k]; omega
  · have := Int.mul_neg_of_pos_of_neg (a := a) (b := b) (by omega) k
    simp [h, k]; omega
  · have := Int.mul_nonneg h k
    simp; omega
theorem mul_too (a b : Int) (ha : a ≠ 0) (hb : b ≠ 0) (h : most a b / abs b < abs a) : fitsV (a * b) = (0, 10) := by
  have h0 : 0 < abs b := by unfold abs; split <;> omega
  have h1 : most a b < abs a * abs b := by
    have := (Int.ediv_lt_iff_lt_mul h0).1 h
    exact this
  rw [abs_mul] at h1
  have hs := mul_sign a b ha hb
  have : isF (a * b) = false := by
    unfold most at h1
    unfold abs at h1
    simp only [isF, Bool.and_eq_false_iff, decide_eq_false_iff_not]
    split at h1 <;> split at h1 <;> rename_i q p <;> first | (left; omega) | (right; omega) | (exfalso; rw [hs] at p; exact absurd p (by simp [q])) | (rw [hs] at p; exfalso; exact p (by simpa using q))
  simp [fitsV, this]
theorem mul_fits (a b : Int) (_ha : a ≠ 0) (hb : b ≠ 0) (h : abs a ≤ most a b / abs b) : -1152921504606846976 ≤ a * b ∧ a * b ≤ 1152921504606846976 := by
  have h0 : 0 < abs b := by unfold abs; split <;> omega
  have h1 : abs a * abs b ≤ most a b := (Int.le_ediv_iff_mul_le h0).1 h
  rw [abs_mul] at h1
  unfold most abs at h1
  split at h1 <;> split at h1 <;> omega
theorem most_bd (a b : Int) : 1152921504606846975 ≤ most a b ∧ most a b ≤ 1152921504606846976 := by unfold most; split <;> omega
theorem tmod_small (x b : Int) (h : x.natAbs < b.natAbs) : x.tmod b = x := by
  have key : ∀ x b : Int, 0 ≤ x → x < b → x.tmod b = x := fun x b h0 h1 => Int.tmod_eq_of_lt h0 h1
  have key2 : ∀ x b : Int, 0 ≤ x → x.natAbs < b.natAbs → x.tmod b = x := fun x b h0 h1 => by
    rcases Int.lt_or_le b 0 with hb | hb
    · rw [← Int.tmod_neg]; exact key _ _ h0 (by omega)
    · exact key _ _ h0 (by omega)
  rcases Int.lt_or_le x 0 with hx | hx
  · have := key2 (-x) b (by omega) (by omega)
    rw [Int.neg_tmod] at this
    omega
  · exact key2 x b hx h
theorem tmod_add (r b : Int) (h : r.natAbs < b.natAbs) : (r + b).tmod b = if r ≠ 0 ∧ decide (r < 0) ≠ decide (b < 0) then r + b else r := by
  have hm : ∀ x : Int, x.tmod b = x - b * x.tdiv b := fun x => by have := Int.mul_tdiv_add_tmod x b; omega
  have key : ∀ r b : Int, 0 ≤ r → r < b → (r + b).tmod b = r := fun r b h0 h1 => by
    rw [Int.tmod_eq_emod_of_nonneg (by omega), Int.add_emod_right]
    exact Int.emod_eq_of_lt h0 h1
  split
  · rename_i hc
    obtain ⟨h0, h1⟩ := hc
    refine tmod_small _ _ ?_
    rcases Int.lt_or_le r 0 with hr | hr <;> rcases Int.lt_or_le b 0 with hb | hb
    · exact absurd (by simp [hr, hb]) h1
    · omega
    · omega
    · exact absurd (by simp; omega) h1
  · rename_i hc
    by_cases h0 : r = 0
    · subst h0; simp
    · have h1 : decide (r < 0) = decide (b < 0) := by
        apply Classical.byContradiction
        intro h2
        exact hc ⟨h0, h2⟩
      rcases Int.lt_or_le b 0 with hb | hb
      · have hr : r < 0 := by simpa [hb] using h1
        have := key (-r) (-b) (by omega) (by omega)
        rw [Int.tmod_neg, ← Int.neg_add, Int.neg_tmod] at this
        omega
      · have hr : 0 ≤ r := by
          have : decide (r < 0) = false := by rw [h1]; simp; omega
          simpa using this
        exact key r b hr (by omega)
theorem mod_of_rem (a b : Int) (hb : b ≠ 0) : (a.tmod b + b).tmod b = if a.tmod b ≠ 0 ∧ decide (a.tmod b < 0) ≠ decide (b < 0) then a.tmod b + b else a.tmod b := by
  have := tmod_bd a b hb
  exact tmod_add _ _ (by omega)
end Fx

end Go.Proofs.YtomggdeinjediaaDoor
