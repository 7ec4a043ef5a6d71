/-
  Plain: the first lines of a text, cut.
-/
import Derived.Test.YtomggdeinjediaaDoorScFirstP
import Derived.Lib.Join
namespace Go.Proofs.YtomggdeinjediaaDoor.Sc
open Go.RowKit
/-- the first lines, so many, each with its line feed -/
def pieces : Nat → List UInt8 → List (List UInt8)
  | 0, _ => []
  | k + 1, t => match line t with
    | none => []
    | some (l, r) => (l ++ [10]) :: pieces k r
theorem pieces_succ (k : Nat) (t : List UInt8) : pieces (k + 1) t = match line t with
    | none => []
    | some (l, r) => (l ++ [10]) :: pieces k r := rfl
theorem ahead_succ (k : Nat) (t : List UInt8) : ahead (k + 1) t = match line t with
    | none => []
    | some (l, r) => l ++ 10 :: ahead k r := rfl
theorem rest_succ (k : Nat) (t : List UInt8) : rest (k + 1) t = match line t with
    | none => []
    | some (_, r) => rest k r := rfl
theorem hasL_succ (k : Nat) (t : List UInt8) : hasL (k + 1) t = match line t with
    | none => false
    | some (_, r) => hasL k r := rfl
theorem pieces_flat : ∀ (k : Nat) (t : List UInt8), (pieces k t).flatten = ahead k t
  | 0, _ => rfl
  | k + 1, t => by
    rw [pieces_succ, ahead_succ]
    cases hl : line t with
    | none => rfl
    | some p =>
      show ((p.1 ++ [10]) :: pieces k p.2).flatten = p.1 ++ 10 :: ahead k p.2
      rw [List.flatten_cons, pieces_flat k p.2]
      simp
theorem hasL_split : ∀ (i j : Nat) (t : List UInt8), hasL (i + j) t = true → hasL i t = true ∧ hasL j (rest i t) = true
  | 0, j, t, h => ⟨rfl, by simpa [rest] using h⟩
  | i + 1, j, t, h => by
    rw [show i + 1 + j = (i + j) + 1 by omega, hasL_succ] at h
    rw [hasL_succ, rest_succ]
    cases hl : line t with
    | none => rw [hl] at h; exact absurd h (by simp)
    | some p =>
      rw [hl] at h
      exact hasL_split i j p.2 h
theorem pieces_snoc : ∀ (i : Nat) (t l r : List UInt8), hasL i t = true → line (rest i t) = some (l, r) → pieces (i + 1) t = pieces i t ++ [l ++ [10]] ∧ rest (i + 1) t = r
  | 0, t, l, r, _, h => by
    have h' : line t = some (l, r) := h
    rw [pieces_succ, rest_succ, h']
    exact ⟨rfl, rfl⟩
  | i + 1, t, l, r, hh, h => by
    rw [hasL_succ] at hh
    rw [rest_succ] at h
    rw [pieces_succ, rest_succ, pieces_succ]
    cases hl : line t with
    | none => rw [hl] at hh; exact absurd hh (by simp)
    | some p =>
      rw [hl] at hh h
      obtain ⟨h1, h2⟩ := pieces_snoc i p.2 l r hh h
      constructor
      · show (p.1 ++ [10]) :: pieces (i + 1) p.2 = ((p.1 ++ [10]) :: pieces i p.2) ++ [l ++ [10]]
        rw [h1]; rfl
      · exact h2
theorem pieces_len : ∀ (k : Nat) (t : List UInt8), hasL k t = true → (pieces k t).length = k
  | 0, _, _ => rfl
  | k + 1, t, h => by
    rw [hasL_succ] at h
    rw [pieces_succ]
    cases hl : line t with
    | none => rw [hl] at h; exact absurd h (by simp)
    | some p => rw [hl] at h; simp [pieces_len k p.2 h]
theorem rest_len : ∀ (k : Nat) (t : List UInt8), hasL k t = true → (ahead k t).length + (rest k t).length = t.length ∧ k ≤ (ahead k t).length
  | 0, t, _ => by simp [ahead, rest]
  | k + 1, t, h => by
    rw [hasL_succ] at h
    rw [ahead_succ, rest_succ]
    cases hl : line t with
    | none => rw [hl] at h; exact absurd h (by simp)
    | some p =>
      rw [hl] at h
      obtain ⟨e, _⟩ := of_line t p.1 p.2 hl
      obtain ⟨h1, h2⟩ := rest_len k p.2 h
      have := congrArg List.length e
      simp at this ⊢
      omega
theorem join_flat (xs : List (List UInt8)) : Lib.join xs [] = xs.flatten := by
  cases xs with
  | nil => rfl
  | cons x r => rw [Lib.join_cons, List.flatten_cons]; simp [Lib.joinTail]
def lines : List (List UInt8) := [[99, 101, 108, 108, 115, 32, 53, 10], [115, 104, 97, 114, 100, 115, 32, 49, 10], [119, 111, 114, 107, 101, 114, 115, 32, 49, 54, 10], [113, 117, 97, 110, 116, 117, 109, 32, 49, 10], [115, 116, 101, 112, 115, 32, 48, 10]]
theorem lines_behind (k : Nat) (hk : k ≤ 6) : (lines.drop k).flatten = behind k := by
  have : k = 0 ∨ k = 1 ∨ k = 2 ∨ k = 3 ∨ k = 4 ∨ k = 5 ∨ k = 6 := by omega
  rcases this with rfl | rfl | rfl | rfl | rfl | rfl | rfl <;> rfl
/-- a text that is no script's has a line that is told, or is too long -/
theorem tail_err (s : Scr) (t : List UInt8) (n e : Int) (h : tailP s t = .err n e) : e = 250 := by
  unfold tailP at h
  repeat' (split at h)
  all_goals first
    | (injection h with _ h; exact h.symm)
    | (unfold last at h; split at h; (· cases h); (· injection h with _ h; exact h.symm))
    | cases h
theorem nums_err : ∀ (f k : Nat) (v : List Int) (t : List UInt8) (n e : Int), nums f k v t = .err n e → e = 250
  | 0, k, v, t, n, e, h => tail_err _ _ _ _ (by simpa [nums] using h)
  | f + 1, k, v, t, n, e, h => by
    unfold nums at h
    split at h
    · injection h with _ h; exact h.symm
    · exact nums_err f _ _ _ _ _ h
theorem parse_err (t : List UInt8) (n e : Int) (h : parse t = .err n e) : (n = 0 ∧ e = 3) ∨ e = 250 := by
  unfold parse at h
  split at h
  · injection h with h1 h2; exact .inl ⟨h1.symm, h2.symm⟩
  · exact .inr (nums_err _ _ _ _ _ _ h)
end Go.Proofs.YtomggdeinjediaaDoor.Sc
