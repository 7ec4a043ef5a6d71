/-
  Plain laws on fixnums: powers, roots, folds. No program in sight.
-/
import Derived.Test.YtlckjphnbfahgaaGreatDoorFixWalks
namespace Go.Proofs.YtlckjphnbfahgaaGreatDoor
open Go.RowKit
namespace Fx
theorem natAbs_pow (a : Int) (n : Nat) : (a ^ n).natAbs = a.natAbs ^ n := by
  induction n with
  | zero => simp
  | succ n ih => rw [Int.pow_succ, Int.natAbs_mul, ih, Nat.pow_succ]
theorem isF_pow_pred (a : Int) (n : Nat) (h : isF (a ^ (n + 1)) = true) : isF (a ^ n) = true := by
  have hb := isF_bd h
  have e : (a ^ (n + 1)).natAbs = (a ^ n).natAbs * a.natAbs := by rw [Int.pow_succ, Int.natAbs_mul]
  apply isF_mk
  by_cases h1 : a.natAbs ≤ 1
  · have : (a ^ n).natAbs ≤ 1 := by
      rw [natAbs_pow]
      calc a.natAbs ^ n ≤ 1 ^ n := Nat.pow_le_pow_left h1 n
        _ = 1 := Nat.one_pow n
    omega
  · have : (a ^ n).natAbs * 2 ≤ (a ^ n).natAbs * a.natAbs := Nat.mul_le_mul_left _ (by omega)
    omega
theorem isF_pow_le (a : Int) (n k : Nat) (h : isF (a ^ n) = false) : isF (a ^ (n + k)) = false := by
  induction k with
  | zero => exact h
  | succ k ih =>
    cases hx : isF (a ^ (n + (k + 1)))
    · rfl
    · have := isF_pow_pred a (n + k) hx
      rw [ih] at this; cases this
theorem isF_pow_lt (a : Int) {n m : Nat} (hnm : n ≤ m) (h : isF (a ^ n) = false) : isF (a ^ m) = false := by
  have := isF_pow_le a n (m - n) h
  rwa [Nat.add_sub_cancel' hnm] at this
def pow : Int → Int → Int × Int := two fun a n => if n < 0 then (0, 1) else fitsV (a ^ n.toNat)
theorem pow_big (a : Int) (n : Nat) (h : 1 < a.natAbs) (hn : 60 < n) : fitsV (a ^ n) = (0, 10) := by
  have : isF (a ^ n) = false := by
    apply isF_pow_lt a (n := 61) (by omega)
    have h1 : 2 ^ 61 ≤ a.natAbs ^ 61 := Nat.pow_le_pow_left h 61
    rw [← natAbs_pow] at h1
    have h2 : (2 : Nat) ^ 61 = 2305843009213693952 := by decide
    rw [h2] at h1
    cases hx : isF (a ^ 61)
    · rfl
    · have := isF_bd hx; omega
  simp [fitsV, this]
theorem one_pow (k : Nat) : (1 : Int) ^ k = 1 := by
  induction k with
  | zero => rfl
  | succ k ih => rw [Int.pow_succ, ih]; rfl
theorem pow_even (a : Int) (n : Nat) (h : a.natAbs ≤ 1) (hn : n % 2 = 0) (h0 : n ≠ 0) : a ^ n = a * a := by
  obtain ⟨k, rfl⟩ : ∃ k, n = 2 * (k + 1) := ⟨n / 2 - 1, by omega⟩
  rw [Int.pow_mul]
  have e : a ^ 2 = a * a := by rw [Int.pow_succ, Int.pow_succ]; simp
  rw [e]
  obtain h | h | h : a = 0 ∨ a = 1 ∨ a = -1 := by omega
  · subst h; simp [Int.pow_succ]
  · subst h; simp [one_pow]
  · subst h; simp [one_pow]
theorem pow_odd (a : Int) (n : Nat) (h : a.natAbs ≤ 1) (hn : n % 2 = 1) : a ^ n = a := by
  obtain ⟨k, rfl⟩ : ∃ k, n = 2 * k + 1 := ⟨n / 2, by omega⟩
  rw [Int.pow_succ, Int.pow_mul]
  have e : a ^ 2 = a * a := by rw [Int.pow_succ, Int.pow_succ]; simp
  rw [e]
  obtain h | h | h : a = 0 ∨ a = 1 ∨ a = -1 := by omega
  · subst h; simp
  · subst h; simp [one_pow]
  · subst h; simp [one_pow]
theorem pow_mod (a : Int) (n : Nat) (h : a.natAbs ≤ 1) (h0 : a ≠ 0 ∨ n = 0) : a ^ n = a ^ (n % 2) := by
  by_cases hn : n = 0
  · subst hn; rfl
  have ha : a ≠ 0 := by omega
  obtain h2 | h2 : n % 2 = 0 ∨ n % 2 = 1 := by omega
  · rw [pow_even a n h h2 hn, h2]
    obtain h | h : a = 1 ∨ a = -1 := by omega
    · subst h; rfl
    · subst h; rfl
  · rw [pow_odd a n h h2, h2, Int.pow_succ]; simp
theorem pow_small (a : Int) (n : Nat) (h : a.natAbs ≤ 1) : isF (a ^ n) = true := by
  apply isF_mk
  have : (a ^ n).natAbs ≤ 1 := by
    rw [natAbs_pow]
    calc a.natAbs ^ n ≤ 1 ^ n := Nat.pow_le_pow_left h n
      _ = 1 := Nat.one_pow n
  omega
theorem fitsV_ok {n : Int} (h : isF n = true) : fitsV n = (n, 0) := by simp [fitsV, h]
theorem fitsV_no {n : Int} (h : isF n = false) : fitsV n = (0, 10) := by simp [fitsV, h]

theorem tmod_sign (a b : Int) : a.tmod b = 0 ∨ (a < 0 ∧ a.tmod b < 0) ∨ (0 ≤ a ∧ 0 < a.tmod b) := by
  rcases Int.lt_or_le a 0 with h | h
  · have : 0 ≤ (-a).tmod b := Int.tmod_nonneg _ (by omega)
    rw [Int.neg_tmod] at this
    omega
  · have : 0 ≤ a.tmod b := Int.tmod_nonneg _ h
    omega
theorem tdiv_over {a b : Int} (ba : -1152921504606846976 ≤ a ∧ a ≤ 1152921504606846975) (bd : -1152921504606846976 ≤ b ∧ b ≤ 1152921504606846975) (h0 : b ≠ 0)
    (h : isF (a.tdiv b) = false) : a = -1152921504606846976 ∧ b = -1 := by
  have h1 := tdiv_bd a b
  have h2 : a.tdiv b = 1152921504606846976 := by
    simp only [isF, Bool.and_eq_false_iff, decide_eq_false_iff_not] at h
    omega
  have h3 : a = -1152921504606846976 := by omega
  have h4 := Int.mul_tdiv_add_tmod a b
  have h5 := tmod_bd a b h0
  rw [h2, h3] at h4
  rw [h3] at h5
  refine ⟨h3, ?_⟩
  have h6 := tmod_sign (-1152921504606846976) b
  omega
theorem tmod_bd3 (a b : Int) : -a.natAbs ≤ a.tmod b ∧ a.tmod b ≤ a.natAbs := by
  have h1 : (a.tmod b).natAbs ≤ a.natAbs := by rw [Int.natAbs_tmod]; exact Nat.mod_le _ _
  omega
theorem two_comm (f : Int → Int → Int × Int) (h : ∀ a b, f a b = f b a) (a b : Int) : two f a b = two f b a := by
  unfold two
  rw [Bool.and_comm, h]
theorem add_comm (a b : Int) : add a b = add b a := two_comm _ (fun a b => by rw [Int.add_comm]) a b
theorem mul_comm (a b : Int) : mul a b = mul b a := two_comm _ (fun a b => by rw [Int.mul_comm]) a b
theorem mul_zero {a b : Int} (h : (mul a b).2 = 0) : isF a = true ∧ isF b = true ∧ isF (a * b) = true ∧ mul a b = (a * b, 0) := by
  cases hab : isF a && isF b
  · rw [show mul a b = (0, 1) from two_bad hab] at h; cases h
  · obtain ⟨ha, hb⟩ : isF a = true ∧ isF b = true := by simpa using hab
    rw [show mul a b = fitsV (a * b) from two_ok ha hb] at h ⊢
    cases hf : isF (a * b)
    · rw [fitsV_no hf] at h; cases h
    · exact ⟨ha, hb, rfl, fitsV_ok hf⟩
/-! roots -/
def sqB (a : Nat) : Nat → Nat
  | 0 => 0
  | r + 1 => if (r + 1) * (r + 1) ≤ a then r + 1 else sqB a r
def sq (a : Nat) : Nat := sqB a a
theorem sqB_of (a r : Nat) (h1 : r * r ≤ a) (h2 : a < (r + 1) * (r + 1)) : ∀ b, r ≤ b → sqB a b = r := by
  intro b
  induction b with
  | zero => intro h; simp [sqB]; omega
  | succ b ih =>
    intro h
    unfold sqB
    by_cases hb : (b + 1) * (b + 1) ≤ a
    · rw [if_pos hb]
      apply Classical.byContradiction
      intro hne
      have h3 : (r + 1) * (r + 1) ≤ (b + 1) * (b + 1) := Nat.mul_le_mul (by omega) (by omega)
      omega
    · rw [if_neg hb]
      apply ih
      apply Classical.byContradiction
      intro hne
      have : r = b + 1 := by omega
      subst this
      exact hb h1
theorem sq_of (a r : Nat) (h1 : r * r ≤ a) (h2 : a < (r + 1) * (r + 1)) : sq a = r := by
  refine sqB_of a r h1 h2 a ?_
  rcases Nat.eq_zero_or_pos r with h | h
  · omega
  · exact Nat.le_trans (Nat.le_mul_of_pos_left r h) h1
def sqrt (a : Int) : Int × Int := if isF a && decide (0 ≤ a) then (sq a.toNat, 0) else (0, 1)

/-- what holds of the root behind k bits -/
def SQ (a k x : Nat) : Prop := x % 2 ^ (30 - k) = 0 ∧ x * x ≤ a ∧ a < (x + 2 ^ (30 - k)) * (x + 2 ^ (30 - k)) ∧ x + 2 ^ (30 - k) ≤ 2 ^ 30
theorem SQ_start (a : Nat) (h : a ≤ 1152921504606846975) : SQ a 0 0 := by
  refine ⟨by simp, by simp, ?_, by simp⟩
  have : (2 : Nat) ^ (30 - 0) = 1073741824 := by decide
  rw [this]
  omega
theorem SQ_end (a x : Nat) (h : SQ a 30 x) : sq a = x := by
  obtain ⟨_, h2, h3, _⟩ := h
  exact sq_of a x h2 (by simpa using h3)
theorem SQ_or (a k x : Nat) (hk : k < 30) (h : SQ a k x) : x ||| 2 ^ (29 - k) = x + 2 ^ (29 - k) := by
  obtain ⟨h1, _, _, _⟩ := h
  have e : 30 - k = (29 - k) + 1 := by omega
  rw [e] at h1
  obtain ⟨m, hm⟩ : ∃ m, x = 2 ^ (29 - k + 1) * m := ⟨x / 2 ^ (29 - k + 1), by
    have := Nat.div_add_mod x (2 ^ (29 - k + 1))
    omega⟩
  rw [hm]
  exact (Nat.two_pow_add_eq_or_of_lt (Nat.pow_lt_pow_right (by omega) (by omega)) m).symm
theorem SQ_bd (a k x : Nat) (hk : k < 30) (h : SQ a k x) : x + 2 ^ (29 - k) < 1073741824 := by
  obtain ⟨_, _, _, h4⟩ := h
  have e : 30 - k = (29 - k) + 1 := by omega
  rw [e, Nat.pow_succ] at h4
  have h5 : 0 < 2 ^ (29 - k) := Nat.pow_pos (by omega)
  have h6 : (2 : Nat) ^ 30 = 1073741824 := by decide
  omega
theorem SQ_yes (a k x : Nat) (hk : k < 30) (h : SQ a k x) (hc : (x + 2 ^ (29 - k)) * (x + 2 ^ (29 - k)) ≤ a) : SQ a (k + 1) (x + 2 ^ (29 - k)) := by
  obtain ⟨h1, h2, h3, h4⟩ := h
  have e : 30 - k = (29 - k) + 1 := by omega
  have e' : 30 - (k + 1) = 29 - k := by omega
  rw [e, Nat.pow_succ] at h1 h3 h4
  refine ⟨?_, hc, ?_, ?_⟩
  · rw [e', Nat.add_mod_right]
    exact Nat.mod_eq_zero_of_dvd (Nat.dvd_trans (Nat.dvd_mul_right _ 2) (Nat.dvd_of_mod_eq_zero h1))
  · rw [e']
    have : x + 2 ^ (29 - k) + 2 ^ (29 - k) = x + 2 ^ (29 - k) * 2 := by omega
    rw [this]; exact h3
  · rw [e']; omega
theorem SQ_no (a k x : Nat) (hk : k < 30) (h : SQ a k x) (hc : a < (x + 2 ^ (29 - k)) * (x + 2 ^ (29 - k))) : SQ a (k + 1) x := by
  obtain ⟨h1, h2, h3, h4⟩ := h
  have e : 30 - k = (29 - k) + 1 := by omega
  have e' : 30 - (k + 1) = 29 - k := by omega
  rw [e, Nat.pow_succ] at h1 h4
  refine ⟨?_, h2, ?_, ?_⟩
  · rw [e']
    exact Nat.mod_eq_zero_of_dvd (Nat.dvd_trans (Nat.dvd_mul_right _ 2) (Nat.dvd_of_mod_eq_zero h1))
  · rw [e']; exact hc
  · rw [e']; omega

/-! folds -/
def foldV (f : Int → Int → Int × Int) : Int → List Int → Int × Int
  | x, [] => (x, 0)
  | x, n :: l => if (f x n).2 = 0 then foldV f (f x n).1 l else (0, (f x n).2)
end Fx
theorem bchain {w w1 w2 : World} (h : Below w.heap.size w w1) (k : Below w1.heap.size w1 w2) : Below w.heap.size w w2 := h.trans (k.mono h.size)
end Go.Proofs.YtlckjphnbfahgaaGreatDoor
