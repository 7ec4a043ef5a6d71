/-
  The walk of shuttleref01.Parse.
-/
import Derived.Test.YtomggdeinjediaaDoorFixForm
namespace Go.Proofs.YtomggdeinjediaaDoor
open Go.RowKit
namespace Fx
theorem parse_over (s : ByteArray) (at_ k : Nat) (hf : form s.data.toList = true) (hd : dig s.data.toList = s.data.toList.drop at_) (hk : k ≤ s.size) (h : 1152921504606846976 < val (pre s at_ k)) : parse s.data.toList = (0, 10) := by
  have := pre_le s at_ k hk
  unfold parse
  rw [if_pos hf, hd]
  split
  · rfl
  · unfold signedV; rw [if_pos (.inr (by omega))]
/-- behind the loop -/
theorem parse_end (s : ByteArray) (at_ : Nat) (hf : form s.data.toList = true) (hd : dig s.data.toList = s.data.toList.drop at_) (h : val (pre s at_ s.size) ≤ 1152921504606846976) :
    parse s.data.toList = fitsV (if neg s.data.toList then -(val (pre s at_ s.size) : Int) else (val (pre s at_ s.size) : Int)) := by
  rw [pre_end] at h ⊢
  have hlen : (s.data.toList.drop at_).length ≤ 19 := by
    apply Classical.byContradiction
    intro hc
    have h3 : form s.data.toList = true := hf
    unfold form at h3
    rw [hd] at h3
    simp only [Bool.and_eq_true, Bool.not_eq_true', List.isEmpty_eq_false_iff] at h3
    obtain ⟨⟨h4, h5⟩, h6⟩ := h3
    cases hl : s.data.toList.drop at_ with
    | nil => rw [hl] at hc; simp at hc
    | cons c l =>
      rw [hl] at hc h5 h6 h
      have h7 : isD c = true ∧ l.all isD = true := by simpa using h6
      have h8 : 1 < s.data.toList.length := by
        have := congrArg List.length hl
        rw [List.length_drop] at this
        simp only [List.length_cons] at hc this
        omega
      have h9 : c ≠ 48 := by
        intro e
        subst e
        rw [show ((48 :: l).head? == some (48 : UInt8)) = true from rfl, decide_eq_true h8] at h5
        cases h5
      have h10 : 1 ≤ c.toNat - 48 := by
        have := h7.1
        simp [isD] at this
        have : c.toNat ≠ 48 := fun e => h9 (UInt8.toNat_inj.1 (by rw [e]; rfl))
        omega
      have h11 := val_ge c l h10 h7.2
      have h12 : (10 : Nat) ^ 19 ≤ 10 ^ l.length := Nat.pow_le_pow_right (by omega) (by simp at hc; omega)
      have h13 : (10 : Nat) ^ 19 = 10000000000000000000 := by decide
      omega
  unfold parse
  rw [if_pos hf, hd, if_neg (by omega)]
  unfold signedV
  rw [if_neg (by omega)]
end Fx

end Go.Proofs.YtomggdeinjediaaDoor
