/-
  The walks of the reference's words, Numbers and may.
-/
import Derived.Test.YtomggdeinjediaaDoorScRefA
namespace Go.Proofs.YtomggdeinjediaaDoor
open Go.RowKit Go.Sort
namespace Sc
theorem infoStr : (Tryd.prog.info? 9).map (fun i => (i.zero, i.size, i.bytes)) = some (some (.string ⟨#[]⟩), 1, 16) := by kernel_rfl
def strV (l : List UInt8) : Value := .string ⟨l.toArray⟩
/-- what the reference's words come to -/
def WordsPost (p s : List UInt8) (w : World) (e : Ending) (w' : World) : Prop :=
  Below w.heap.size w w' ∧ match strip p s with
  | none => e = .returned (.slice none 0 0)
  | some ws => ∃ v, e = .returned v ∧ w'.ownsRow w.heap.size 9 1 v (cuts ws).length ((cuts ws).map strV)
theorem WordsPost.no {p s : List UInt8} {w w' : World} (h : strip p s = none) (hb : Below w.heap.size w w') : WordsPost p s w (.returned (.slice none 0 0)) w' := by
  refine ⟨hb, ?_⟩
  simp only [h]
theorem WordsPost.yes {p s ws : List UInt8} {w w' : World} {v : Value} (h : strip p s = some ws) (hb : Below w.heap.size w w') (ho : w'.ownsRow w.heap.size 9 1 v (cuts ws).length ((cuts ws).map strV)) : WordsPost p s w (.returned v) w' := by
  refine ⟨hb, ?_⟩
  simp only [h]
  exact ⟨v, rfl, ho⟩
/-- how far the words are cut -/
def WInv (s : ByteArray) (f0 q fr : Nat) (D : List (List UInt8)) : Prop :=
  D.length ≤ q - f0 ∧ ((q ≤ s.size ∧ fr ≤ q ∧ f0 ≤ fr ∧ cuts ((s.data.toList.drop f0).take (q - f0)) = D ++ [(s.data.toList.drop fr).take (q - fr)]) ∨ (q = s.size + 1 ∧ D = cuts (s.data.toList.drop f0)))
theorem WInv.start (s : ByteArray) (f0 : Nat) (h : f0 ≤ s.size) : WInv s f0 f0 f0 [] := by
  refine ⟨by simp, .inl ⟨h, Nat.le_refl _, Nat.le_refl _, ?_⟩⟩
  rw [Nat.sub_self, List.take_zero]
  rfl
theorem take_at (s : ByteArray) (f q : Nat) (hf : f ≤ q) (hq : q < s.size) : (s.data.toList.drop f).take (q + 1 - f) = (s.data.toList.drop f).take (q - f) ++ [s[q]] := by
  rw [show q + 1 - f = (q - f) + 1 by omega, List.take_succ_eq_append_getElem (by rw [List.length_drop, Fx.size_toList]; omega), List.getElem_drop]
  congr 2
  simp only [show f + (q - f) = q by omega]
  rfl
theorem WInv.last (s : ByteArray) (f0 fr : Nat) (D : List (List UInt8)) (h : WInv s f0 s.size fr D) (hf : f0 ≤ s.size) : WInv s f0 (s.size + 1) (s.size + 1) (D ++ [(s.data.toList.drop fr).take (s.size - fr)]) := by
  obtain ⟨h0, h1⟩ := h
  refine ⟨by rw [List.length_append, List.length_singleton]; omega, .inr ⟨rfl, ?_⟩⟩
  rcases h1 with ⟨_, _, _, h4⟩ | ⟨h4, _⟩
  · rw [← h4]
    congr 1
    exact List.take_of_length_le (by rw [List.length_drop, Fx.size_toList]; exact Nat.le_refl _)
  · omega
theorem WInv.blank (s : ByteArray) (f0 q fr : Nat) (D : List (List UInt8)) (h : WInv s f0 q fr D) (hq : q < s.size) (hc : s[q] = 32) (hf0 : f0 ≤ q) : WInv s f0 (q + 1) (q + 1) (D ++ [(s.data.toList.drop fr).take (q - fr)]) := by
  obtain ⟨h0, h1⟩ := h
  refine ⟨by rw [List.length_append, List.length_singleton]; omega, .inl ⟨by omega, Nat.le_refl _, by omega, ?_⟩⟩
  rcases h1 with ⟨_, _, h3, h4⟩ | ⟨h4, _⟩
  · rw [take_at s f0 q (by omega) hq, hc, cuts_snoc, if_pos rfl, h4, Nat.sub_self, List.take_zero]
  · omega
theorem WInv.other (s : ByteArray) (f0 q fr : Nat) (D : List (List UInt8)) (h : WInv s f0 q fr D) (hq : q < s.size) (hc : s[q] ≠ 32) : WInv s f0 (q + 1) fr D := by
  obtain ⟨h0, h1⟩ := h
  refine ⟨by omega, .inl ?_⟩
  rcases h1 with ⟨_, h2, h3, h4⟩ | ⟨h4, _⟩
  · refine ⟨by omega, by omega, h3, ?_⟩
    rw [take_at s f0 q (by omega) hq, cuts_snoc, if_neg hc, h4, take_at s fr q h2 hq]
    simp
  · omega
theorem WInv.done (s : ByteArray) (f0 q fr : Nat) (D : List (List UInt8)) (h : WInv s f0 q fr D) (hq : s.size < q) : D = cuts (s.data.toList.drop f0) := by
  rcases h.2 with ⟨h4, _⟩ | ⟨_, h4⟩
  · omega
  · exact h4
end Sc
namespace Sc
/-- the reference's numbers of a script, in block B -/
def NumsR (w : World) (B : Nat) (v : List Int) : Prop :=
  ∀ k, k < 5 → w.cell? ⟨B, k * 4, none⟩ = some (.string (nmB k)) ∧ w.cell? ⟨B, k * 4 + 1, none⟩ = some (.int .i64 (v.getD k 0)) ∧ w.cell? ⟨B, k * 4 + 2, none⟩ = some (.int .i64 (low k)) ∧ w.cell? ⟨B, k * 4 + 3, none⟩ = some (.int .i64 (top k))
end Sc
end Go.Proofs.YtomggdeinjediaaDoor
