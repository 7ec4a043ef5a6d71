/-
  The walk of LexApart.
-/
import Derived.Test.YtihfflinkmceaabLexApartS
import Derived.Deep.RegionHeld3
namespace Go.Proofs.Ytihfflinkmceaab
open Go.RowKit Go.Sort
namespace Lx
theorem lex_zero (s : List UInt8) (h : (lex s).2.2 = 0) : (lex s).2.1 = 0 := by
  unfold lex at h ⊢
  split
  · rfl
  · rename_i h1
    rw [if_neg h1] at h
    split
    · rename_i h2; rw [if_pos h2] at h; simp at h
    · rename_i h2
      rw [if_neg h2] at h
      have hn := words_norm s.length (s.length + 1) 0 s
      unfold app at hn
      rw [if_pos h] at hn
      rw [← hn]
theorem Row.below {w w' : World} {v : Value} {l : List PTok} (h : Row w v l) (hb : Below w.heap.size w w') : Row w' v l := by
  rcases h with h | ⟨g, cap, hv, hc⟩
  · exact .inl h
  · refine .inr ⟨g, cap, hv, fun j u hj => ?_⟩
    have := hc j u hj
    rw [hb.cell (p := ⟨g, j, none⟩) (block_lt_of_cell this)]
    exact this
theorem row_own {w : World} {b n : Nat} {v : Value} {l : List PTok} (h : w.ownsRow b 35 5 v n (flatT l)) (hn : n = l.length) : Row w v l := by
  subst hn
  rcases Joins.ownsRow_forms h with ⟨rfl, hz⟩ | ⟨g, cap, rfl, _⟩
  · exact .inl ⟨rfl, List.eq_nil_of_length_eq_zero hz⟩
  · refine .inr ⟨g, cap, rfl, fun j u hj => ?_⟩
    rw [h.cellAt j (by have := (List.getElem?_eq_some_iff.1 hj).1; rw [flat_len] at this; exact this)]
    exact hj
theorem row_one (w : World) (p : PTok) (ty : TypeId) (cap : Nat) : Row (w.alloc (.cells #[.int .i64 p.t.k, .int .i64 (p.at_ : Int), .int .i64 (p.to : Int), .int .i64 p.t.n, .string ⟨p.t.s.toArray⟩] ty)) (.slice (some ⟨w.heap.size, 0, none⟩) 1 cap) [p] := by
  refine .inr ⟨w.heap.size, cap, rfl, fun j u hj => ?_⟩
  have := five_new w p.t.k (p.at_ : Int) (p.to : Int) p.t.n ⟨p.t.s.toArray⟩ ty j u (by simpa [flatT, cells5] using hj)
  have e : ((⟨w.heap.size, 0, none⟩ : Addr).add j) = ⟨w.heap.size, j, none⟩ := by simp [Addr.add]; omega
  rw [e] at this
  exact this
theorem lastH {A1 A2 A3 A4 A5 A6 A7 B : Prop} (h : A1 ∧ A2 ∧ A3 ∧ A4 ∧ A5 ∧ A6 ∧ A7 ∧ Hid B) : B := h.2.2.2.2.2.2.2.out
theorem below_al {w w' : World} (h : Below w.heap.size w w') (o : Obj) : Below w.heap.size w (w'.alloc o) := h.alloc h.size o
end Lx
end Go.Proofs.Ytihfflinkmceaab
