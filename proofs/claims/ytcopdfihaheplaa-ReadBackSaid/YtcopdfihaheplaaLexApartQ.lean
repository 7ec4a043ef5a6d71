/-
 Plain: the words of a word's own bytes.
-/
import Derived.Test.YtcopdfihaheplaaLexApartP
namespace Go.Proofs.Ytcopdfihaheplaa.Lx
open Go.RowKit Go.Sort
def Solid (t : List UInt8) : Prop := white (pk t 0) = false ∧ (pk t 0 == 59) = false ∧ (pk t 0 == 35 && pk t 1 == 124) = false
theorem head_is (c : UInt8) (r : List UInt8) : (r.head? == some 124) = (pk (c :: r) 1 == 124) := by
 cases r with
 | nil => rfl
 | cons d r => simp [pk]
theorem gap_solid (f : Nat) (t : List UInt8) (h : Solid t) : gap (f + 1) t = (t, true) := by
 cases t with
 | nil => rfl
 | cons c r =>
  obtain ⟨h1, h2, h3⟩ := h
  have e : pk (c :: r) 0 = c := rfl
  rw [e] at h1 h2 h3
  unfold gap
  rw [if_neg (by rw [h1]; simp), if_neg (by rw [h2]; simp), head_is c r, if_neg (by rw [h3]; simp)]
end Go.Proofs.Ytcopdfihaheplaa.Lx
