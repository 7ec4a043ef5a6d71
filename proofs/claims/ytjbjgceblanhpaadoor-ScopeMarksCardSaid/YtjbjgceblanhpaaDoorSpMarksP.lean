/-
  ScopeMarks: the plain law.
-/
import Derived.Test.YtjbjgceblanhpaaDoorSpAlikeP
import Derived.Test.YtjbjgceblanhpaaDoorSpNamesI
namespace Go.Proofs.YtjbjgceblanhpaaDoor
open Go.RowKit
namespace Sp
open Dt
theorem look_take (t : Tbl) (s : ByteArray) (m : List Int) (c : Int) : ∀ (k q : Nat), k ≤ m.length → look t s (m ++ [c]) k q = look t s m k q
  | 0, q, _ => by rw [look, look]
  | k + 1, q, hk => by
    rw [look, look]
    have e1 : (m ++ [c]).take (k + 1) = m.take (k + 1) := List.take_append_of_le_length hk
    have e2 : (m ++ [c]).getD k 0 = m.getD k 0 := by rw [List.getD_eq_getElem?_getD, List.getD_eq_getElem?_getD, List.getElem?_append_left (by omega)]
    rw [e1, e2, look_take t s m c k _ (by omega)]
/-- a name with one mark more -/
def more (x : D) (m : Int) : D := .mk 5 0 x.s (x.m ++ [m]) [] []
theorem mark_ok {t : Tbl} {s : Int} (h : (mark t s).2.2 = 0) : (0 ≤ s ∧ s < (t.l.length : Int)) ∧ t.m.length < 16384 ∧ mark t s = ((⟨t.l, t.m ++ [s.toNat]⟩ : Tbl), ((t.m.length : Int) + 1), (0 : Int)) := by
  unfold mark at h ⊢
  split at h
  · exact absurd (show (50 : Int) = 0 from h) (by decide)
  split at h
  · exact absurd (show (7 : Int) = 0 from h) (by decide)
  rename_i h1 h2
  rw [if_neg h1, if_neg h2]
  exact ⟨by omega, by omega, rfl⟩
theorem more_sym {x : D} {m : Int} (h : isSym x = true) (hl : x.m.length < 16) (hm : 1 ≤ m ∧ m ≤ 1048576) : isSym (more x m) = true := by
  obtain ⟨h1, h2, h3, h4, h5, h6, h7, h8⟩ := sym_parts h
  refine sym_mk h7 (by simp; omega) (fun y hy => ?_)
  rcases List.mem_append.1 hy with hy | hy
  · exact h6 y hy
  · rw [List.mem_singleton.1 hy]; exact hm
theorem marks_law {t : Tbl} (ht : t.Ok) {s other : Int} {x : D} (hf : (find t s x).2 = 0) (hk : (mark t s).2.2 = 0) (hl : x.m.length < 16) :
    isSym (more x (t.m.length + 1)) = true ∧
    ((0 ≤ other ∧ other < (t.l.length : Int)) → (∀ i ∈ ups t.l other.toNat, binds t.l x.s (x.m ++ [(t.m.length : Int) + 1]) i = false) → find ⟨t.l, t.m ++ [s.toNat]⟩ other (more x (t.m.length + 1)) = find t s x) ∧
    ((other < 0 ∨ (t.l.length : Int) ≤ other) → find ⟨t.l, t.m ++ [s.toNat]⟩ other (more x (t.m.length + 1)) = (⟨0, 0, ⟨#[]⟩⟩, 50)) := by
  obtain ⟨f1, f2, f3, f4⟩ := find_ok hf
  obtain ⟨k1, k2, k3⟩ := mark_ok hk
  have hs := more_sym (m := (t.m.length : Int) + 1) f2 hl (by omega)
  refine ⟨hs, fun ho hno => ?_, fun ho => ?_⟩
  · have hall : ∀ y ∈ (more x ((t.m.length : Int) + 1)).m, y ≤ (((⟨t.l, t.m ++ [s.toNat]⟩ : Tbl).m.length : Nat) : Int) := fun y hy => by
      simp only [List.length_append, List.length_cons, List.length_nil]
      rcases List.mem_append.1 (show y ∈ x.m ++ [(t.m.length : Int) + 1] from hy) with hy | hy
      · have := f3 y hy; omega
      · rw [List.mem_singleton.1 hy]; omega
    rw [find_of (t := ⟨t.l, t.m ++ [s.toNat]⟩) ho hs hall, f4]
    have e1 : (more x ((t.m.length : Int) + 1)).m.length = x.m.length + 1 := by show (x.m ++ [_]).length = _; simp
    rw [e1]
    have e2 : hit t.l other.toNat x.s ((x.m ++ [(t.m.length : Int) + 1]).take (x.m.length + 1)) = none := by
      rw [List.take_of_length_le (by simp)]
      unfold hit
      rw [List.find?_eq_none]
      intro i hi
      rw [hno i hi]
      simp
    show (look ⟨t.l, t.m ++ [s.toNat]⟩ x.s (x.m ++ [(t.m.length : Int) + 1]) (x.m.length + 1) other.toNat, 0) = _
    rw [look]
    simp only
    rw [e2]
    simp only
    have e3 : (x.m ++ [(t.m.length : Int) + 1]).getD x.m.length 0 = (t.m.length : Int) + 1 := by rw [List.getD_eq_getElem?_getD, List.getElem?_append_right (Nat.le_refl _), Nat.sub_self]; rfl
    have e4 : (t.m ++ [s.toNat]).getD (((t.m.length : Int) + 1).toNat - 1) 0 = s.toNat := by
      rw [show ((t.m.length : Int) + 1).toNat - 1 = t.m.length by omega, List.getD_eq_getElem?_getD, List.getElem?_append_right (Nat.le_refl _), Nat.sub_self]; rfl
    rw [e3, e4, look_take _ _ _ _ _ _ (Nat.le_refl _), look_mark ht s.toNat x.s x.m (fun y hy => ⟨((sym_parts f2).2.2.2.2.2.1 y hy).1, f3 y hy⟩) _ _ (Nat.le_refl _)]
  · unfold find
    rw [if_pos ho]
/-- that a scope's name is that one -/
theorem same_more' {t : Tbl} (ht : t.Ok) {i : Nat} {b : Bd} (hb : t.l[i]? = some b) (hi : 0 < i) {x : D} {m : Int} (hs : isSym (more x m) = true) : sameD b.id (more x m) = binds t.l x.s (x.m ++ [m]) i := by
  obtain ⟨g1, g2, g3, g4, -, -, -, g8⟩ := sym_parts (ht.inn i b hb hi).2
  obtain ⟨-, -, -, -, -, -, -, s8⟩ := sym_parts hs
  unfold sameD binds
  rw [hb, decide_eq_true g8, decide_eq_true s8]
  simp only [Bool.true_and]
  rw [Bool.eq_iff_iff, eqD_iff, Bool.and_eq_true, decide_eq_true_eq, decide_eq_true_eq]
  cases hid : b.id with
  | mk k n s m' l t' =>
    rw [hid] at g1 g2 g3 g4
    simp only [D.k, D.n, D.l, D.t, D.s, D.m] at g1 g2 g3 g4 ⊢
    subst g1 g2 g3 g4
    unfold more
    constructor
    · intro e; cases e; exact ⟨rfl, rfl⟩
    · rintro ⟨rfl, rfl⟩; rfl
end Sp
end Go.Proofs.YtjbjgceblanhpaaDoor
