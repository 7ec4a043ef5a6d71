/-
 The walk of SameWords at rows of the same words.
-/
import Derived.Test.YtcopdfihaheplaaLexAwake
namespace Go.Proofs.Ytcopdfihaheplaa
open Go.RowKit Go.Sort
namespace Lx
def Row (w : World) (v : Value) (l : List PTok) : Prop :=
 (v = .slice none 0 0 ∧ l = []) ∨ ∃ g cap, v = .slice (some ⟨g, 0, none⟩) l.length cap ∧ ∀ j u, (flatT l)[j]? = some u → w.cell? ⟨g, j, none⟩ = some u
theorem flat_at : ∀ (l : List PTok) (k : Nat) (h : k < l.length) (i : Nat), i < 5 → (flatT l)[k * 5 + i]? = (cells5 l[k])[i]? := by
 intro l
 induction l with
 | nil => intro k h; exact absurd h (by simp)
 | cons a l ih =>
  intro k h i hi
  have e : flatT (a :: l) = cells5 a ++ flatT l := rfl
  rw [e]
  have h5 : (cells5 a).length = 5 := rfl
  cases k with
  | zero => rw [List.getElem?_append_left (by omega)]; simp
  | succ k =>
   rw [List.getElem?_append_right (by omega), h5, show (k + 1) * 5 + i - 5 = k * 5 + i by omega]
   simpa using ih k (by simpa using h) i hi
theorem Row.five {w : World} {g : Nat} {l : List PTok} (hc : ∀ j u, (flatT l)[j]? = some u → w.cell? ⟨g, j, none⟩ = some u) (k : Nat) (h : k < l.length) :
  w.cell? ⟨g, k * 5, none⟩ = some (.int .i64 l[k].t.k) ∧ w.cell? ⟨g, k * 5 + 1, none⟩ = some (.int .i64 (l[k].at_ : Int)) ∧ w.cell? ⟨g, k * 5 + 2, none⟩ = some (.int .i64 (l[k].to : Int)) ∧ w.cell? ⟨g, k * 5 + 3, none⟩ = some (.int .i64 l[k].t.n) ∧ w.cell? ⟨g, k * 5 + 4, none⟩ = some (.string ⟨l[k].t.s.toArray⟩) :=
 ⟨hc _ _ (flat_at l k h 0 (by omega)), hc _ _ (flat_at l k h 1 (by omega)), hc _ _ (flat_at l k h 2 (by omega)), hc _ _ (flat_at l k h 3 (by omega)), hc _ _ (flat_at l k h 4 (by omega))⟩
end Lx
end Go.Proofs.Ytcopdfihaheplaa
