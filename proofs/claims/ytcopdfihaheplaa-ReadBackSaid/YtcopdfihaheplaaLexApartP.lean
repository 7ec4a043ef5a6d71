/-
 Plain: a word's own bytes are that word alone.
-/
import Derived.Test.YtcopdfihaheplaaLexBare
namespace Go.Proofs.Ytcopdfihaheplaa.Lx
open Go.RowKit Go.Sort
theorem runW_rest (w r r' : List UInt8) (k : Tok) (h : runW w r = .tok k r') (r2 : List UInt8) : runW w r2 = .tok k r2 := by
 unfold runW at h ⊢
 split at h
 ·rename_i h1; rw [if_pos h1]; simp at h ⊢; exact h.1
 ·rename_i h1
  rw [if_neg h1]
  split at h
  ·rename_i h2; rw [if_pos h2]; simp at h ⊢; exact h.1
  ·rename_i h2
   rw [if_neg h2]
   split at h
   ·rename_i h3; rw [if_pos h3]; simp at h ⊢; exact h.1
   ·rename_i h3
    rw [if_neg h3]
    split at h
    ·rename_i h4
     rw [if_pos h4]
     split at h
     ·rename_i h5; rw [if_pos h5]; simp at h ⊢; exact h.1
     ·split at h
      ·simp at h
      ·simp at h
    ·rename_i h4
     rw [if_neg h4]
     split at h
     ·rename_i h5; rw [if_pos h5]; simp at h ⊢; exact h.1
     ·simp at h
theorem tw_tw (f : UInt8 → Bool) : ∀ (t : List UInt8), (t.takeWhile f).takeWhile f = t.takeWhile f := by
 intro t
 induction t with
 | nil => rfl
 | cons a t ih =>
  by_cases h : f a = true
  ·rw [List.takeWhile_cons_of_pos h, List.takeWhile_cons_of_pos h, ih]
  ·rw [List.takeWhile_cons_of_neg h]; rfl
theorem tw_pre (f : UInt8 → Bool) (t : List UInt8) : t.take (t.takeWhile f).length = t.takeWhile f := (tw_take f t _ rfl).1.symm
theorem nameLen_own (u : List UInt8) (h0 : u ≠ []) : nameLen (u.take (nameLen u)) = nameLen u ∧ 1 ≤ nameLen u ∧ nameLen u ≤ u.length := by
 cases u with
 | nil => exact absurd rfl h0
 | cons c u =>
  by_cases h : low c = true
  ·have e : nameLen (c :: u) = (u.takeWhile fun c => low c || figure c).length + 1 := by
    unfold nameLen; rw [if_pos (by simpa [pk] using h)]; simp; omega
   have hl := (List.takeWhile_sublist (l := u) (fun c => low c || figure c)).length_le
   rw [e, List.take_succ_cons, tw_pre]
   refine ⟨?_, by omega, by simp; omega⟩
   unfold nameLen
   rw [if_pos (by simpa [pk] using h), List.tail_cons, tw_tw]
   omega
  ·have e : nameLen (c :: u) = 1 := by unfold nameLen; rw [if_neg (by simpa [pk] using h)]
   rw [e]
   refine ⟨?_, by omega, by simp⟩
   unfold nameLen
   rw [if_neg (by simpa [pk] using h)]
theorem pk_app (p r : List UInt8) (n : Nat) (h : n < p.length) : pk (p ++ r) n = pk p n := by
 unfold pk; rw [List.getD_eq_getElem?_getD, List.getD_eq_getElem?_getD, List.getElem?_append_left h]
theorem pk_end (p : List UInt8) (n : Nat) (h : p.length ≤ n) : pk p n = 0 := by
 unfold pk; rw [List.getD_eq_getElem?_getD, List.getElem?_eq_none h]; rfl
def sg (c d : UInt8) : Nat × Nat :=
 if c == 40 then (1, 1) else if c == 41 then (2, 1) else if c == 39 then (4, 1) else if c == 96 then (5, 1)
 else if c == 44 then (if d == 64 then (7, 2) else (6, 1))
 else if c == 35 && d == 40 then (3, 2) else (0, 0)
theorem sign_sg (t : List UInt8) : sign t = sg (pk t 0) (pk t 1) := rfl
theorem sg_two (c d : UInt8) (h : (sg c d).1 ≠ 0) : (sg c d).2 = 1 ∨ ((sg c d).2 = 2 ∧ d ≠ 0) := by
 revert h
 by_cases hd : d = 0
 ·subst hd
  unfold sg
  cases (c == 40) <;> cases (c == 41) <;> cases (c == 39) <;> cases (c == 96) <;> cases (c == 44) <;> cases (c == 35) <;> simp
 ·unfold sg
  cases (c == 40) <;> cases (c == 41) <;> cases (c == 39) <;> cases (c == 96) <;> cases (c == 44) <;> cases (c == 35) <;> cases (d == 64) <;> cases (d == 40) <;> simp [hd]
end Go.Proofs.Ytcopdfihaheplaa.Lx
