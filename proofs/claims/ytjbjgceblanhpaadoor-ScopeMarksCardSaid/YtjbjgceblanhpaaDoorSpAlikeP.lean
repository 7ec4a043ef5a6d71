/-
  ScopeAlike: the plain law.
-/
import Derived.Test.YtjbjgceblanhpaaDoorSpInnerP
namespace Go.Proofs.YtjbjgceblanhpaaDoor
open Go.RowKit
namespace Sp
open Dt
theorem find_ok {t : Tbl} {a : Int} {x : D} (h : (find t a x).2 = 0) : (0 ≤ a ∧ a < (t.l.length : Int)) ∧ isSym x = true ∧ (∀ m ∈ x.m, m ≤ (t.m.length : Int)) ∧ find t a x = (look t x.s x.m x.m.length a.toNat, 0) := by
  unfold find at h ⊢
  split at h
  · exact absurd h (by decide)
  split at h
  · exact absurd h (by decide)
  split at h
  · exact absurd h (by decide)
  rename_i h1 h2 h3
  rw [if_neg h1, if_neg h2, if_neg h3]
  simp only [Bool.not_eq_false, List.all_eq_true, decide_eq_true_eq] at h3
  exact ⟨by omega, by simpa using h2, h3, rfl⟩
theorem find_of {t : Tbl} {a : Int} {x : D} (h1 : 0 ≤ a ∧ a < (t.l.length : Int)) (h2 : isSym x = true) (h3 : ∀ m ∈ x.m, m ≤ (t.m.length : Int)) : find t a x = (look t x.s x.m x.m.length a.toNat, 0) := by
  unfold find
  rw [if_neg (by omega), if_neg (by rw [h2]; simp), if_neg (by simp only [Bool.not_eq_false, List.all_eq_true, decide_eq_true_eq]; exact h3)]
theorem extend_fst (t : Tbl) (sc : Int) (id : D) (n : Int) : (extend t sc id n).1 = t ∨ (extend t sc id n).1 = ⟨t.l ++ [⟨sc.toNat, id, n⟩], t.m⟩ := by
  unfold extend
  split
  · exact .inl rfl
  split
  · exact .inl rfl
  split
  · exact .inl rfl
  · exact .inr rfl
theorem mark_fst (t : Tbl) (sc : Int) : (mark t sc).1 = t ∨ (mark t sc).1 = ⟨t.l, t.m ++ [sc.toNat]⟩ := by
  unfold mark
  split
  · exact .inl rfl
  split
  · exact .inl rfl
  · exact .inr rfl
/-- what is made later changes nothing of what means something -/
theorem find_ext {t : Tbl} (h : t.Ok) (b : Bd) {a : Int} {x : D} (hf : (find t a x).2 = 0) : find ⟨t.l ++ [b], t.m⟩ a x = find t a x := by
  obtain ⟨h1, h2, h3, h4⟩ := find_ok hf
  rw [h4, find_of (t := ⟨t.l ++ [b], t.m⟩) (by simp only [List.length_append, List.length_cons, List.length_nil]; omega) h2 h3, look_ext h b x.s x.m _ _ (by omega)]
theorem find_mark {t : Tbl} (h : t.Ok) (c : Nat) {a : Int} {x : D} (hf : (find t a x).2 = 0) : find ⟨t.l, t.m ++ [c]⟩ a x = find t a x := by
  obtain ⟨h1, h2, h3, h4⟩ := find_ok hf
  rw [h4, find_of (t := ⟨t.l, t.m ++ [c]⟩) h1 h2 (fun m hm => by have := h3 m hm; simp only [List.length_append, List.length_cons, List.length_nil]; omega), look_mark h c x.s x.m (fun y hy => ⟨((sym_parts h2).2.2.2.2.2.1 y hy).1, h3 y hy⟩) _ _ (Nat.le_refl _)]
theorem step_ok {t : Tbl} (h : t.Ok) (o : O) : (step t o).Ok := by
  unfold step
  split
  · exact h.extend ..
  split
  · exact h.mark ..
  · exact h
theorem find_step {t : Tbl} (h : t.Ok) (o : O) {a : Int} {x : D} (hf : (find t a x).2 = 0) : find (step t o) a x = find t a x := by
  unfold step
  split
  · rcases extend_fst t o.s o.id o.n with e | e
    · rw [e]
    · rw [e]; exact find_ext h _ hf
  split
  · rcases mark_fst t o.s with e | e
    · rw [e]
    · rw [e]; exact find_mark h _ hf
  · rfl
theorem find_more : ∀ (l : List O) {t : Tbl} (_ : t.Ok) {a : Int} {x : D} (_ : (find t a x).2 = 0), find (l.foldl step t) a x = find t a x
  | [], _, _, _, _, _ => rfl
  | o :: l, t, h, a, x, hf => by
    have h1 := find_step h o hf
    rw [List.foldl_cons, find_more l (step_ok h o) (by rw [h1]; exact hf), h1]
theorem same_err {t : Tbl} {a b : Int} {x y : D} (h : (same t a x b y).2 ≠ 0) : (same t a x b y).1 = false := by
  unfold same at h ⊢
  split
  · rfl
  split
  · rfl
  · rename_i h1 h2
    rw [if_neg h1, if_neg h2] at h
    exact absurd rfl h
theorem same_ok {t : Tbl} {a b : Int} {x y : D} (h : (same t a x b y).2 = 0) : (find t a x).2 = 0 ∧ (find t b y).2 = 0 ∧ same t a x b y = (decide ((find t a x).1 = (find t b y).1), 0) := by
  unfold same at h ⊢
  by_cases h1 : (find t a x).2 ≠ 0
  · rw [if_pos h1] at h; exact absurd h h1
  by_cases h2 : (find t b y).2 ≠ 0
  · rw [if_neg h1, if_pos h2] at h; exact absurd h h2
  rw [if_neg h1, if_neg h2]
  exact ⟨by simpa using h1, by simpa using h2, rfl⟩
theorem same_of {t : Tbl} {a b : Int} {x y : D} (h1 : (find t a x).2 = 0) (h2 : (find t b y).2 = 0) : same t a x b y = (decide ((find t a x).1 = (find t b y).1), 0) := by
  unfold same
  rw [if_neg (by simp [h1]), if_neg (by simp [h2])]
/-- both ways -/
theorem same_back {t : Tbl} {a b : Int} {x y : D} (h : (same t a x b y).2 = 0) : same t b y a x = same t a x b y := by
  obtain ⟨h1, h2, h3⟩ := same_ok h
  rw [h3, same_of h2 h1]
  congr 1
  exact decide_eq_decide.2 ⟨fun h => h.symm, fun h => h.symm⟩
/-- by a third one -/
theorem same_third {t : Tbl} {a b c : Int} {x y z : D} (h1 : (same t a x b y).2 = 0) (h2 : (same t b y c z).2 = 0) (h3 : (same t a x c z).2 = 0) (e1 : (same t a x b y).1 = true) (e2 : (same t b y c z).1 = true) : (same t a x c z).1 = true := by
  obtain ⟨_, _, g1⟩ := same_ok h1
  obtain ⟨_, _, g2⟩ := same_ok h2
  obtain ⟨_, _, g3⟩ := same_ok h3
  rw [g1] at e1
  rw [g2] at e2
  rw [g3]
  exact decide_eq_true ((of_decide_eq_true e1).trans (of_decide_eq_true e2))
/-- later, too -/
theorem same_more {t : Tbl} (ht : t.Ok) (l : List O) {a b : Int} {x y : D} (h : (same t a x b y).2 = 0) : same (l.foldl step t) a x b y = same t a x b y := by
  obtain ⟨h1, h2, h3⟩ := same_ok h
  have e1 := find_more l ht h1
  have e2 := find_more l ht h2
  rw [h3, same_of (by rw [e1]; exact h1) (by rw [e2]; exact h2), e1, e2]
theorem orow_at {F : Nat → Prop} {w w' : World} {a : Option Addr} {c : Nat} {l : List O} (h : ORow F w (.slice a l.length c) l) (hb : Below w.heap.size w w') : l ≠ [] → ∃ b o, a = some ⟨b, o, none⟩ ∧ F b ∧ b < w'.heap.size ∧ ∀ j, (hj : j < l.length) → OAt F w' b (o + j * 16) l[j] := by
  obtain ⟨a', c', e, -, h9⟩ := h.below hb
  obtain ⟨rfl, -, -⟩ := slice_inj e
  exact h9
end Sp
end Go.Proofs.YtjbjgceblanhpaaDoor
