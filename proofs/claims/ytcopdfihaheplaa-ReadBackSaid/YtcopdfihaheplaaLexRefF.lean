/-
 Plain, and the walk of the reference's str: a string.
-/
import Derived.Test.YtcopdfihaheplaaLexRefE
import Derived.Test.YtcopdfihaheplaaLexStr
namespace Go.Proofs.Ytcopdfihaheplaa
open Go.RowKit Go.Sort
namespace Lx
def good : List UInt8 → Bool
 | [] => true
 | [c] => c != 92
 | c :: d :: r => if c == 92 then good r else good (d :: r)
termination_by l => l.length
decreasing_by all_goals (simp; try omega)
theorem good_plain (c : UInt8) (t : List UInt8) (h : (c == 92) = false) : good (c :: t) = good t := by
 cases t with
 | nil => simp only [good]; simpa using h
 | cons d r => rw [good, if_neg (by rw [h]; simp)]
theorem good_esc (d : UInt8) (r : List UInt8) : good (92 :: d :: r) = good r := by rw [good]; rfl
theorem good_92 : good [92] = false := by rw [good]; rfl
theorem strEnd_good : ∀ (f : Nat) (t b r : List UInt8), t.length ≤ f → strEnd t = some (b, r) → good b = true ∧ t = b ++ 34 :: r := by
 intro f
 induction f with
 | zero =>
  intro t b r hf h
  have : t = [] := List.length_eq_zero_iff.1 (by omega)
  subst this
  simp [strEnd] at h
 | succ f ih =>
  intro t b r hf h
  match t, hf, h with
  | [], _, h => simp [strEnd] at h
  | [c], _, h =>
   rw [strEnd] at h
   split at h
   ·rename_i hc
    injection h with h
    injection h with h1 h2
    subst h1; subst h2
    have : c = 34 := by simpa using hc
    subst this
    exact ⟨by simp [good], rfl⟩
   ·cases h
  | c :: d :: u, hf, h =>
   rw [strEnd] at h
   split at h
   ·rename_i hc
    injection h with h
    injection h with h1 h2
    subst h1; subst h2
    have : c = 34 := by simpa using hc
    subst this
    exact ⟨by simp [good], rfl⟩
   ·split at h
    ·rename_i hc
     have hc2 : c = 92 := by simpa using hc
     subst hc2
     cases hu : strEnd u with
     | none => rw [hu] at h; cases h
     | some p =>
      obtain ⟨b', r'⟩ := p
      rw [hu] at h
      injection h with h
      injection h with h1 h2
      subst h1; subst h2
      obtain ⟨g1, g2⟩ := ih u b' r' (by simp at hf; omega) hu
      exact ⟨by rw [good_esc]; exact g1, by rw [g2]; rfl⟩
    ·rename_i hc
     cases hu : strEnd (d :: u) with
     | none => rw [hu] at h; cases h
     | some p =>
      obtain ⟨b', r'⟩ := p
      rw [hu] at h
      injection h with h
      injection h with h1 h2
      subst h1; subst h2
      obtain ⟨g1, g2⟩ := ih (d :: u) b' r' (by simp at hf ⊢; omega) hu
      exact ⟨by rw [good_plain c b' (by simpa using hc)]; exact g1, by rw [g2]; rfl⟩
theorem hexOf_92 : hexOf 92 = none := by decide
theorem two_good (r : List UInt8) (h : 0 ≤ two r) (hg : good r = true) : good (r.drop 2) = true := by
 unfold two at h
 match r, h, hg with
 | [], h, _ => simp at h
 | [_], h, _ => simp at h
 | x :: y :: u, h, hg =>
  change (0 : Int) ≤ (match hexOf x, hexOf y with | some a, some b => (if a ≤ 7 then ((16 * a + b : Nat) : Int) else -1) | _, _ => -1) at h
  rcases hx : hexOf x with _ | a
  ·rw [hx] at h; simp at h
  ·rcases hy : hexOf y with _ | b
   ·rw [hx, hy] at h; simp at h
   ·have n1 : (x == 92) = false := by
     rw [beq_eq_false_iff_ne]; intro e; rw [e, hexOf_92] at hx; cases hx
    have n2 : (y == 92) = false := by
     rw [beq_eq_false_iff_ne]; intro e; rw [e, hexOf_92] at hy; cases hy
    rw [good_plain x _ n1, good_plain y _ n2] at hg
    exact hg
theorem quoted_92e (t : List UInt8) (h : t ≠ []) : quoted (92 :: t) = if (esc t).1 < 0 then none else (quoted (t.drop (esc t).2.toNat)).map (UInt8.ofNat (esc t).1.toNat :: ·) := by
 obtain ⟨d, r, rfl⟩ := List.exists_cons_of_ne_nil h
 rw [quoted_esc, esc_cons]
 by_cases h1 : d = 110
 ·subst h1; rfl
 ·by_cases h2 : d = 116
  ·subst h2; rfl
  ·by_cases h3 : d = 92
   ·subst h3; rfl
   ·by_cases h4 : d = 34
    ·subst h4; rfl
    ·by_cases h5 : d = 120
     ·subst h5
      show (if two r < 0 then none else _) = (if two r < 0 then none else _)
      rfl
     ·simp [h1, h2, h3, h4, h5]
theorem good_92e (t : List UInt8) (h : t ≠ []) (hg : good (92 :: t) = true) (he : ¬ (esc t).1 < 0) : good (t.drop (esc t).2.toNat) = true := by
 obtain ⟨d, r, rfl⟩ := List.exists_cons_of_ne_nil h
 rw [good_esc] at hg
 rw [esc_cons] at he ⊢
 by_cases h1 : d = 110
 ·subst h1; exact hg
 ·by_cases h2 : d = 116
  ·subst h2; exact hg
  ·by_cases h3 : d = 92
   ·subst h3; exact hg
   ·by_cases h4 : d = 34
    ·subst h4; exact hg
    ·by_cases h5 : d = 120
     ·subst h5
      have he' : ¬ two r < 0 := he
      exact two_good r (by omega) hg
     ·simp [h1, h2, h3, h4, h5] at he
theorem esc_len (t : List UInt8) (h : t ≠ []) (he : ¬ (esc t).1 < 0) : 1 ≤ (esc t).2 ∧ (esc t).2.toNat ≤ t.length ∧ (esc t).1 ≤ 255 := by
 obtain ⟨d, r, rfl⟩ := List.exists_cons_of_ne_nil h
 rw [esc_cons] at he ⊢
 by_cases h1 : d = 110
 ·subst h1; simp
 ·by_cases h2 : d = 116
  ·subst h2; simp
  ·by_cases h3 : d = 92
   ·subst h3; simp
   ·by_cases h4 : d = 34
    ·subst h4; simp
    ·by_cases h5 : d = 120
     ·subst h5
      have he' : ¬ two r < 0 := he
      obtain ⟨l1, l2⟩ := two_range r (by omega)
      show 1 ≤ (3 : Int) ∧ (3 : Int).toNat ≤ (120 :: r).length ∧ two r ≤ 255
      rw [List.length_cons]
      exact ⟨by decide, by show 3 ≤ _; omega, by omega⟩
     ·simp [h1, h2, h3, h4, h5] at he
end Lx
end Go.Proofs.Ytcopdfihaheplaa
