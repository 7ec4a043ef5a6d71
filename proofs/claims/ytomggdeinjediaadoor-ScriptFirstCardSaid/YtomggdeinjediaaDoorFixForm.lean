/-
  The walks of shuttleref01.Form and Parse.
-/
import Derived.Test.YtomggdeinjediaaDoorFixTextR
namespace Go.Proofs.YtomggdeinjediaaDoor
open Go.RowKit
namespace Fx
theorem get_drop (s : ByteArray) (at_ : Nat) : (s.data.toList.drop at_).all isD = true ↔ ∀ j (h : j < s.size), at_ ≤ j → isD s[j] = true := by
  rw [List.all_eq_true]
  constructor
  · intro H j h hj
    refine H s[j] ?_
    rw [List.mem_iff_getElem]
    refine ⟨j - at_, by rw [List.length_drop, size_toList]; omega, ?_⟩
    rw [List.getElem_drop]
    have e : at_ + (j - at_) = j := by omega
    simp only [e]
    rfl
  · intro H x hx
    obtain ⟨i, hi, rfl⟩ := List.getElem_of_mem hx
    rw [List.getElem_drop]
    rw [List.length_drop, size_toList] at hi
    exact H (at_ + i) (by omega) (by omega)
def allFrom (s : ByteArray) (at_ : Nat) : Bool := (s.data.toList.drop at_).all isD
/-- the digits of the first k bytes -/
def pre (s : ByteArray) (at_ k : Nat) : List UInt8 := (s.data.toList.take k).drop at_
theorem pre_snoc (s : ByteArray) (at_ k : Nat) (h : k < s.size) (ha : at_ ≤ k) : pre s at_ (k + 1) = pre s at_ k ++ [s[k]] := by
  unfold pre
  rw [take_snoc s k h, List.drop_append_of_le_length (by rw [List.length_take, size_toList]; omega)]
theorem pre_end (s : ByteArray) (at_ : Nat) : pre s at_ s.size = s.data.toList.drop at_ := by
  unfold pre
  rw [List.take_of_length_le (by rw [size_toList]; exact Nat.le_refl _)]
theorem val_mono (l m : List UInt8) : val l ≤ val (l ++ m) := by
  induction m generalizing l with
  | nil => simp
  | cons c m ih =>
    have := ih (l ++ [c])
    rw [val_snoc, List.append_assoc] at this
    exact Nat.le_trans (by omega) this
theorem pre_le (s : ByteArray) (at_ k : Nat) (hk : k ≤ s.size) : val (pre s at_ k) ≤ val (s.data.toList.drop at_) := by
  unfold pre
  by_cases h : at_ ≤ k
  · have : s.data.toList.drop at_ = (s.data.toList.take k).drop at_ ++ s.data.toList.drop k := by
      rw [← List.drop_append_of_le_length (by rw [List.length_take, size_toList]; omega), List.take_append_drop]
    rw [this]; exact val_mono _ _
  · rw [List.drop_eq_nil_of_le (by rw [List.length_take]; omega)]
    simp [val]
/-- a text's digits with no nought ahead are great -/
theorem val_ge (c : UInt8) (l : List UInt8) (hc : 1 ≤ c.toNat - 48) (_h : l.all isD = true) : 10 ^ l.length ≤ val (c :: l) := by
  have key : ∀ (l : List UInt8) (v k : Nat), 10 ^ k ≤ v → 10 ^ (k + l.length) ≤ l.foldl (fun v c => 10 * v + (c.toNat - 48)) v := by
    intro l
    induction l with
    | nil => intro v k hv; simpa using hv
    | cons d l ih =>
      intro v k hv
      rw [List.foldl_cons, List.length_cons, show k + (l.length + 1) = (k + 1) + l.length from by omega]
      refine ih _ _ ?_
      rw [Nat.pow_succ]; omega
  have := key l (10 * 0 + (c.toNat - 48)) 0 (by simpa using hc)
  rw [Nat.zero_add] at this
  exact this
end Fx
theorem b2 (p q : Bool) (h : p = q) : Ending.returned (.bool p) = .returned (.bool q) := by rw [h]

theorem Fx.at_eq (s : ByteArray) (h0 : 0 < s.size) (k : Nat) (hk : k < 256) : ((s[0].toNat : Int) == (k : Int)) = (s.data.toList.head? == some (UInt8.ofNat k)) := by
  rw [Fx.at0 s h0]
  by_cases h : s[0].toNat = k
  · have e : s[0] = UInt8.ofNat k := UInt8.toNat_inj.1 (by rw [h]; simp; omega)
    rw [beq_iff_eq.2 (show (s[0].toNat : Int) = k by omega), e]
    simp
  · have e : s[0] ≠ UInt8.ofNat k := fun e => h (by rw [e]; simp; omega)
    rw [beq_eq_false_iff_ne.2 (show (s[0].toNat : Int) ≠ k by omega)]
    exact (beq_eq_false_iff_ne.2 (fun h => e (by injection h))).symm
/-- the cases of a text -/
theorem Fx.cases (s : ByteArray) (P : Prop)
    (empty : s = ⟨#[]⟩ → P)
    (sign : ∀ h0 : 0 < s.size, s.size = 1 → ((s[0].toNat : Int) == 45) = true → Fx.form s.data.toList = false → P)
    (slead : ∀ h1 : 1 < s.size, ((s[0].toNat : Int) == 45) = true → ((s[1].toNat : Int) == 48) = true → Fx.form s.data.toList = false → P)
    (minus : ∀ h1 : 1 < s.size, ((s[0].toNat : Int) == 45) = true → ((s[1].toNat : Int) == 48) = false → Fx.form s.data.toList = Fx.allFrom s 1 → Fx.dig s.data.toList = s.data.toList.drop 1 → Fx.neg s.data.toList = true → P)
    (lead : ∀ h0 : 0 < s.size, 1 < s.size → ((s[0].toNat : Int) == 48) = true → Fx.form s.data.toList = false → P)
    (zero : ∀ h0 : 0 < s.size, s.size = 1 → ((s[0].toNat : Int) == 48) = true → Fx.form s.data.toList = Fx.allFrom s 0 → Fx.dig s.data.toList = s.data.toList.drop 0 → Fx.neg s.data.toList = false → P)
    (plain : ∀ h0 : 0 < s.size, ((s[0].toNat : Int) == 45) = false → ((s[0].toNat : Int) == 48) = false → Fx.form s.data.toList = Fx.allFrom s 0 → Fx.dig s.data.toList = s.data.toList.drop 0 → Fx.neg s.data.toList = false → P) : P := by
  by_cases h0 : s.size = 0
  · refine empty ?_
    obtain ⟨⟨l⟩⟩ := s
    cases l with
    | nil => rfl
    | cons c l => simp [ByteArray.size] at h0
  have hp : 0 < s.size := by omega
  have hl := Fx.size_toList s
  have q45 := Fx.at_eq s hp 45 (by omega)
  have q48 := Fx.at_eq s hp 48 (by omega)
  cases hm : (((s[0]'hp).toNat : Int) == 45)
  · have q45' : (s.data.toList.head? == some 45) = false := q45.symm.trans hm
    have hdig : Fx.dig s.data.toList = s.data.toList := by unfold Fx.dig; rw [if_neg (by simpa using q45')]
    have hneg : Fx.neg s.data.toList = false := q45'
    have hne : s.data.toList.isEmpty = false := by rw [List.isEmpty_eq_false_iff]; intro h; rw [h] at hl; simp at hl; omega
    cases hz : (((s[0]'hp).toNat : Int) == 48)
    · have q48' : (s.data.toList.head? == some 48) = false := q48.symm.trans hz
      exact plain hp hm hz (by unfold Fx.form Fx.allFrom; rw [hdig, q48', hne]; simp) hdig hneg
    · have q48' : (s.data.toList.head? == some 48) = true := q48.symm.trans hz
      by_cases h1 : s.size = 1
      · exact zero hp h1 hz (by unfold Fx.form Fx.allFrom; rw [hdig, q48', hne, hl, h1]; simp) hdig hneg
      · exact lead hp (by omega) hz (by unfold Fx.form; rw [hdig, q48', hl]; simp; omega)
  · have q45' : (s.data.toList.head? == some 45) = true := q45.symm.trans hm
    have hdig : Fx.dig s.data.toList = s.data.toList.tail := by unfold Fx.dig; rw [if_pos (by simpa using q45')]
    have hneg : Fx.neg s.data.toList = true := q45'
    by_cases h1 : s.size = 1
    · refine sign hp h1 hm ?_
      have : s.data.toList.tail = [] := List.eq_nil_of_length_eq_zero (by rw [List.length_tail]; omega)
      unfold Fx.form; rw [hdig, this]; rfl
    have h1' : 1 < s.size := by omega
    have hh : s.data.toList.tail.head? = some s[1] := by
      rw [List.head?_eq_getElem?, List.getElem?_tail, List.getElem?_eq_getElem (by rw [hl]; exact h1')]
      rfl
    have hne : s.data.toList.tail.isEmpty = false := by rw [List.isEmpty_eq_false_iff]; intro h; rw [h] at hh; cases hh
    cases hz : ((s[1].toNat : Int) == 48)
    · have : (some s[1] == some (48 : UInt8)) = false := by
        rw [beq_eq_false_iff_ne]; intro h; injection h with h; rw [h] at hz; revert hz; decide
      refine minus h1' hm hz ?_ (by rw [hdig, List.drop_one]) hneg
      unfold Fx.form Fx.allFrom; rw [hdig, hh, this, hne, List.drop_one]; simp
    · have h48 : s[1] = 48 := UInt8.toNat_inj.1 (by have : (s[1].toNat : Int) = 48 := by simpa using hz
                                                    have : s[1].toNat = 48 := by omega
                                                    rw [this]; rfl)
      refine slead h1' hm hz ?_
      unfold Fx.form; rw [hdig, hh, h48, hl]; simp; omega
end Go.Proofs.YtomggdeinjediaaDoor
