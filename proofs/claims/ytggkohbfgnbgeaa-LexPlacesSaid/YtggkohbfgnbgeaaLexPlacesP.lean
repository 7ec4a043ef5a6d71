/-
  Plain: the line and the column of a place.
-/
import Derived.Test.YtggkohbfgnbgeaaLexModel
import Derived.Lib.LastIndexByte
import Derived.Lib.Bytealg
namespace Go.Proofs.Ytggkohbfgnbgeaa.Lx
open Go.RowKit
def step (p : Nat × Nat) (c : UInt8) : Nat × Nat := if c = 10 then (p.1 + 1, 1) else (p.1, p.2 + 1)
/-- the line and the column behind a text -/
def place (l : List UInt8) : Nat × Nat := l.foldl step (1, 1)
theorem place_snoc (l : List UInt8) (c : UInt8) : place (l ++ [c]) = step (place l) c := by simp [place]
theorem place_lib (s : ByteArray) : ∀ k, k ≤ s.size → ((place (s.data.toList.take k)).1 : Int) = (Lib.countByte (s.data.toList.take k) 10 : Int) + 1 ∧ ((place (s.data.toList.take k)).2 : Int) = (k : Int) - Lib.lastIdx s 10 k := by
  intro k
  induction k with
  | zero => intro _; exact ⟨rfl, rfl⟩
  | succ k ih =>
    intro hk
    obtain ⟨h1, h2⟩ := ih (by omega)
    have hg : s.data[k]! = s[k] := getElem!_pos s.data k (by show k < s.size; omega)
    rw [Fx.take_snoc s k (by omega), place_snoc]
    unfold step
    have hc : Lib.countByte (s.data.toList.take k ++ [s[k]]) 10 = Lib.countByte (s.data.toList.take k) 10 + if s[k] = 10 then 1 else 0 := by
      unfold Lib.countByte
      rw [List.count_append, List.count_singleton]
      by_cases h : s[k] = 10
      · rw [if_pos h, h]; rfl
      · rw [if_neg h, if_neg (by simpa using h)]
    rw [hc]
    by_cases h : s[k] = 10
    · rw [if_pos h, if_pos h, Lib.lastIdx_hit s 10 k (by rw [hg, h]; rfl)]
      refine ⟨?_, ?_⟩
      · show (((place (s.data.toList.take k)).1 + 1 : Nat) : Int) = _
        omega
      · show ((1 : Nat) : Int) = _
        omega
    · rw [if_neg h, if_neg h, Lib.lastIdx_miss s 10 k (by rw [hg]; intro hh; apply h; apply UInt8.toNat_inj.1; show s[k].toNat = 10; omega)]
      refine ⟨?_, ?_⟩
      · show (((place (s.data.toList.take k)).1 : Nat) : Int) = _
        omega
      · show (((place (s.data.toList.take k)).2 + 1 : Nat) : Int) = _
        omega
theorem place_all (d : ByteArray) : ((place d.data.toList).1 : Int) = (Lib.countByte d.data.toList 10 : Int) + 1 ∧ ((place d.data.toList).2 : Int) = (d.size : Int) - Lib.lastIndexByte d 10 := by
  have h := place_lib d d.size (Nat.le_refl _)
  rw [List.take_of_length_le (by rw [Fx.size_toList]; exact Nat.le_refl _)] at h
  exact h
end Go.Proofs.Ytggkohbfgnbgeaa.Lx
