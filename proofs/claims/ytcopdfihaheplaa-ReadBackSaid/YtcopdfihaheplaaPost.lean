/-
 The row's last step where the call leaves a world of which 'Below' alone is known (the guide's own small lemma, laid here).
-/
import Derived.Test.YtcopdfihaheplaaRows
import Derived.WalkKit
import Derived.ProofKit
import Derived.OpenShut
import Derived.Below
import Derived.ChangeSame
import Derived.Lib.Hide
namespace Go.Proofs.Ytcopdfihaheplaa
open Go.RowKit Go.WideShapes Go.ChangeShapes
def IsRow (k : IntKind) (w : World) (a : Option Addr) (len cap : Nat) (zs : List Int) : Prop :=
 (a = none ∧ len = 0 ∧ cap = 0 ∧ zs = []) ∨
 ∃ x, a = some x ∧ len ≤ cap ∧ cap ≤ maxLen ∧ zs.length = cap ∧ (∀ i, i < zs.length → w.cell? (x.add i) = some (.int k (zs.getD i 0))) ∧ ∀ n ∈ zs, (Lit.int k n).wf = true
theorem IsRow.at {k : IntKind} {w : World} {a : Option Addr} {len cap : Nat} {zs : List Int} (h : IsRow k w a len cap zs) :
  (a = none ∧ len = 0 ∧ cap = 0) ∨ (len = 0 ∧ ∃ x, a = some x) ∨ ∃ b off, a = some ⟨b, off, none⟩ ∧ 0 < len ∧ len ≤ 9223372036854775807 ∧ b < w.heap.size ∧ (zs.take len).length = len ∧
   ∀ i, i < len → w.cell? ⟨b, off + i, none⟩ = some (.int k ((zs.take len).getD i 0)) := by
 rcases h with ⟨rfl, rfl, rfl, rfl⟩ | ⟨x, rfl, hl, hm, hz, hcell, _⟩
 ·exact .inl ⟨rfl, rfl, rfl⟩
 ·by_cases h0 : len = 0
  ·exact .inr (.inl ⟨h0, x, rfl⟩)
  ·obtain ⟨b, off, spot⟩ := x
   have hc := hcell 0 (by omega)
   have hspot : spot = none := by simpa [Addr.add] using World.cell?_spot hc
   subst hspot
   have hadd : ∀ i, (⟨b, off, none⟩ : Addr).add i = ⟨b, off + i, none⟩ := fun i => by unfold Addr.add; split <;> simp_all
   refine .inr (.inr ⟨b, off, rfl, by omega, by unfold maxLen at hm; omega, ?_, by rw [List.length_take]; omega, fun i hi => ?_⟩)
   ·rw [hadd] at hc
    apply Classical.byContradiction
    intro hb
    have : w.heap[b]? = none := Array.getElem?_eq_none (by omega)
    simp [World.cell?, this] at hc
   ·rw [← hadd, hcell i (by omega)]
    simp [List.getD, hi]
section
variable {H : Type} {enc : TypeId × Value → H} {P : Program}
end
end Go.Proofs.Ytcopdfihaheplaa
