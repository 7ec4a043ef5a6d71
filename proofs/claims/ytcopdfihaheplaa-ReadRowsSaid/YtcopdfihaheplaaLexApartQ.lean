/-
 Plain: the words of a word's own bytes.
-/
import Derived.Test.YtcopdfihaheplaaLexApartP
namespace Go.Proofs.Ytcopdfihaheplaa.Lx
open Go.RowKit Go.Sort
def Solid (t : List UInt8) : Prop := white (pk t 0) = false ∧ (pk t 0 == 59) = false ∧ (pk t 0 == 35 && pk t 1 == 124) = false
theorem head_is (c : UInt8) (r : List UInt8) : (r.head? == some 124) = (pk (c :: r) 1 == 124) := by
 cases r with
 | nil => rfl
 | cons d r => simp [pk]
theorem gap_solid (f : Nat) (t : List UInt8) (h : Solid t) : gap (f + 1) t = (t, true) := by
 cases t with
 | nil => rfl
 | cons c r =>
  obtain ⟨h1, h2, h3⟩ := h
  have e : pk (c :: r) 0 = c := rfl
  rw [e] at h1 h2 h3
  unfold gap
  rw [if_neg (by rw [h1]; simp), if_neg (by rw [h2]; simp), head_is c r, if_neg (by rw [h3]; simp)]
theorem gap_end2 : ∀ (f : Nat) (t : List UInt8), t.length ≤ f → (gap f t).2 = true → (gap f t).1 = [] ∨ Solid (gap f t).1 := by
 intro f
 induction f with
 | zero =>
  intro t ht _
  left
  have : t = [] := List.eq_nil_of_length_eq_zero (by omega)
  subst this
  rfl
 | succ f ih =>
  intro t ht h
  cases t with
  | nil => left; rfl
  | cons c r =>
   simp only [List.length_cons] at ht
   unfold gap at h ⊢
   split at h
   ·rename_i hw; rw [if_pos hw]; exact ih r (by omega) h
   ·rename_i hw
    rw [if_neg hw]
    split at h
    ·rename_i h59
     rw [if_pos h59]
     have h2 : (r.dropWhile (· != 10)).length ≤ r.length := (List.dropWhile_sublist _).length_le
     exact ih _ (by omega) h
    ·rename_i h59
     rw [if_neg h59]
     split at h
     ·rename_i h35
      rw [if_pos h35]
      split at h
      ·exact absurd h (by simp)
      ·rename_i r' hr
       have h2 := com_len _ _ _ _ (Nat.le_refl _) hr
       simp only [List.length_cons] at h2
       exact ih r' (by omega) h
     ·rename_i h35
      rw [if_neg h35]
      right
      refine ⟨by simpa [pk] using hw, by simpa [pk] using h59, ?_⟩
      rw [head_is c r] at h35
      have e : pk (c :: r) 0 = c := rfl
      rw [e]
      simpa using h35
theorem lex_own (p : List UInt8) (k : Tok) (h0 : p ≠ []) (hs : Solid p) (hok : p.all okByte = true) (hl : p.length ≤ 16384) (hw : word p = .tok k []) : lex p = ([⟨0, p.length, k⟩], 0, 0) := by
 unfold lex
 rw [if_neg (by omega), hok, if_neg (by simp)]
 have hpos : 0 < p.length := List.length_pos_iff.2 h0
 obtain ⟨m, hm⟩ : ∃ m, p.length = m + 1 := ⟨p.length - 1, by omega⟩
 have hg : gap p.length p = (p, true) := by rw [hm]; exact gap_solid m p hs
 have hr : words p.length p.length 1 [] = ([], 0, 0) := by rw [hm, words_step]; rfl
 have := words_tok p.length p.length 0 p p [] k [] hg h0 (by decide) hw hr
 rw [this]
 simp
end Go.Proofs.Ytcopdfihaheplaa.Lx
