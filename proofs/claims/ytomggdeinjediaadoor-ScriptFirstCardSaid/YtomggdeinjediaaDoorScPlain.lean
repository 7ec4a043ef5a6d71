/-
  Plain: lines, words between blanks, numbers of digits.
-/
import Derived.Test.YtomggdeinjediaaDoorScModel
namespace Go.Proofs.YtomggdeinjediaaDoor.Sc
open Go.RowKit
theorem cuts_ne : ∀ (t : List UInt8), cuts t ≠ [] := by
  intro t
  cases t with
  | nil => simp [cuts]
  | cons c t =>
    unfold cuts
    split
    · simp
    · split <;> simp
theorem cuts_no : ∀ (t : List UInt8), t.contains 32 = false → cuts t = [t] := by
  intro t
  induction t with
  | nil => intro _; rfl
  | cons c t ih =>
    intro h
    rw [List.contains_cons, Bool.or_eq_false_iff] at h
    unfold cuts
    rw [if_neg (by have := h.1; simp at this; intro e; exact this e.symm), ih h.2]
theorem cuts_yes : ∀ (t : List UInt8), t.contains 32 = true → cuts t = t.takeWhile (· != 32) :: cuts (t.dropWhile (· != 32)).tail := by
  intro t
  induction t with
  | nil => intro h; simp at h
  | cons c t ih =>
    intro h
    by_cases hc : c = 32
    · subst hc
      rw [List.takeWhile_cons_of_neg (by simp), List.dropWhile_cons_of_neg (by simp), List.tail_cons]
      conv => lhs; unfold cuts
      rw [if_pos rfl]
    · have h2 : t.contains 32 = true := by
        rw [List.contains_cons, Bool.or_eq_true] at h
        rcases h with h | h
        · simp at h; exact absurd h.symm hc
        · exact h
      rw [List.takeWhile_cons_of_pos (by simpa using hc), List.dropWhile_cons_of_pos (by simpa using hc)]
      rw [cuts, if_neg hc, ih h2]
theorem cuts_snoc : ∀ (t : List UInt8) (c : UInt8), cuts (t ++ [c]) = if c = 32 then cuts t ++ [[]] else (cuts t).dropLast ++ [((cuts t).getLastD []) ++ [c]] := by
  intro t c
  induction t with
  | nil =>
    by_cases hc : c = 32
    · subst hc; rfl
    · rw [if_neg hc]; simp [cuts, hc]
  | cons d t ih =>
    rw [List.cons_append, cuts, ih]
    by_cases hd : d = 32
    · rw [if_pos hd, cuts, if_pos hd]
      by_cases hc : c = 32
      · rw [if_pos hc, if_pos hc]; rfl
      · rw [if_neg hc, if_neg hc]
        cases h : cuts t with
        | nil => exact absurd h (cuts_ne t)
        | cons a r => simp
    · rw [if_neg hd, cuts, if_neg hd]
      cases h : cuts t with
      | nil => exact absurd h (cuts_ne t)
      | cons a r =>
        by_cases hc : c = 32
        · rw [if_pos hc, if_pos hc]; rfl
        · rw [if_neg hc, if_neg hc]
          cases r with
          | nil => rfl
          | cons b r => simp
/-- the number of a text of digits, as it is written; -1: there is none within a million -/
def numR (s : List UInt8) : Int := if (Fx.parse s).2 = 0 ∧ 0 ≤ (Fx.parse s).1 ∧ (Fx.parse s).1 ≤ 1000000 then (Fx.parse s).1 else -1
theorem isF_small (n : Nat) (h : n ≤ 1000000) : Fx.isF (n : Int) = true := by
  unfold Fx.isF
  simp
  omega
theorem textL_nat (n : Nat) : Fx.textL (n : Int) = Fx.digF 20 n := by
  unfold Fx.textL
  rw [if_neg (by omega)]
  rfl
theorem numR_yes (s : List UInt8) (h2 : Fx.val s ≤ 1000000) (h3 : Fx.digF 20 (Fx.val s) = s) : numR s = Fx.val s := by
  have h := Fx.parse_text (Fx.val s : Int) (isF_small _ h2)
  rw [textL_nat, h3] at h
  unfold numR
  rw [h, if_pos ⟨rfl, by show (0 : Int) ≤ _; omega, by show (Fx.val s : Int) ≤ _; omega⟩]
theorem numR_of (s : List UInt8) (h : numR s ≠ -1) : s.all Fx.isD = true ∧ Fx.val s ≤ 1000000 ∧ Fx.digF 20 (Fx.val s) = s := by
  unfold numR at h
  split at h
  · rename_i hc
    obtain ⟨n, e, hp⟩ : ∃ n e, Fx.parse s = (n, e) := ⟨_, _, rfl⟩
    rw [hp] at hc
    obtain ⟨h0, h1, h2⟩ := hc
    simp only [] at h0 h1 h2
    subst h0
    obtain ⟨m, rfl⟩ : ∃ m : Nat, n = m := ⟨n.toNat, by omega⟩
    have ht := (Fx.text_parse s m hp).2
    rw [textL_nat] at ht
    have hv : Fx.val s = m := by rw [← ht]; exact Fx.digF_val 20 m (Nat.lt_of_le_of_lt (show m ≤ 1000000 by omega) (by decide))
    rw [hv]
    exact ⟨by rw [← ht]; exact Fx.digF_all 20 m, by omega, ht⟩
  · exact absurd rfl h
theorem value_num (s : List UInt8) (n : Int) : value s = some n ↔ (numR s = n ∧ 0 ≤ n ∧ n ≤ 131072) := by
  unfold value numR
  constructor
  · intro h
    split at h
    · rename_i hc
      simp at h
      subst h
      rw [if_pos ⟨hc.1, hc.2.1, by omega⟩]
      exact ⟨rfl, hc.2.1, hc.2.2⟩
    · simp at h
  · rintro ⟨h, h0, h1⟩
    split at h
    · rename_i hc
      subst h
      rw [if_pos ⟨hc.1, hc.2.1, h1⟩]
    · omega
end Go.Proofs.YtomggdeinjediaaDoor.Sc
