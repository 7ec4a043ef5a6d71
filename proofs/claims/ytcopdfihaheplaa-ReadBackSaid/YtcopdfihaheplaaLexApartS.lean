/-
 Plain: the words of a text stand one behind the other, each one's bytes alone are that word.
-/
import Derived.Test.YtcopdfihaheplaaLexApartQ
namespace Go.Proofs.Ytcopdfihaheplaa.Lx
open Go.RowKit Go.Sort
theorem dw_suf (f : UInt8 → Bool) (t : List UInt8) : t.dropWhile f <:+ t := List.dropWhile_suffix f
theorem com_suf : ∀ (m : Nat) (l : List UInt8) (o : Nat) (r : List UInt8), l.length ≤ m → com l o = some r → r <:+ l := by
 intro m
 induction m with
 | zero =>
  intro l o r hm h
  have : l = [] := List.eq_nil_of_length_eq_zero (by omega)
  subst this
  rw [com] at h
  simp at h
 | succ m ih =>
  intro l o r hm h
  cases l with
  | nil => rw [com] at h; simp at h
  | cons c t =>
   simp only [List.length_cons] at hm
   have ht : t.tail <:+ c :: t := (List.tail_suffix t).trans (List.suffix_cons c t)
   have hl : t.tail.length ≤ m := by simp; omega
   rw [com] at h
   split at h
   ·exact (ih _ _ _ hl h).trans ht
   ·split at h
    ·split at h
     ·simp at h; rw [← h]; exact ht
     ·exact (ih _ _ _ hl h).trans ht
    ·exact (ih _ _ _ (by omega) h).trans (List.suffix_cons c t)
theorem gap_suf : ∀ (f : Nat) (t : List UInt8), (gap f t).1 <:+ t := by
 intro f
 induction f with
 | zero => intro t; exact List.suffix_refl t
 | succ f ih =>
  intro t
  cases t with
  | nil => exact List.suffix_refl _
  | cons c r =>
   unfold gap
   split
   ·exact (ih r).trans (List.suffix_cons c r)
   ·split
    ·exact ((ih _).trans (dw_suf _ r)).trans (List.suffix_cons c r)
    ·split
     ·split
      ·exact List.suffix_refl _
      ·rename_i r' hr
       exact (ih r').trans (com_suf _ _ _ _ (Nat.le_refl _) hr)
     ·exact List.suffix_refl _
theorem suf_drop (s r : List UInt8) (h : r <:+ s) : r = s.drop (s.length - r.length) := (List.suffix_iff_eq_drop.1 h)
end Go.Proofs.Ytcopdfihaheplaa.Lx
