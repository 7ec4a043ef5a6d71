/-
  ScopeMarks: what its walk leans on behind the new name.
-/
import Derived.Test.YtjbjgceblanhpaaDoorSpMk
import Derived.Test.YtjbjgceblanhpaaDoorSpMarksP
namespace Go.Proofs.YtjbjgceblanhpaaDoor
open Go.RowKit
namespace Sp
open Dt
theorem flatN_length {t : Tbl} (l : List (Ne t)) : (flatN l).length = l.length * 7 := by
  induction l with
  | nil => rfl
  | cons a l ih =>
    show (a.cells ++ flatN l).length = _
    rw [List.length_append, ih, List.length_cons]
    have : a.cells.length = 7 := rfl
    omega
/-- one that is told, as it lies -/
theorem told_at {w : World} {base : Nat} {v : Value} {t : Tbl} {ls : List (Ne t)} (h : w.ownsRow base 57 7 v ls.length (flatN ls)) (j : Nat) (hj : j < ls.length) :
    ∃ g c, v = .slice (some ⟨g, 0, none⟩) ls.length c ∧ g < w.heap.size ∧ ∀ i, i < 7 → w.cell? ⟨g, j * 7 + i, none⟩ = ls[j].cells[i]? := by
  rcases h.2 with ⟨_, h0⟩ | ⟨g, cap, cur, rfl, e2, e3, e4⟩
  · omega
  · refine ⟨g, cap, rfl, (h.lt g rfl).2, fun i hi => ?_⟩
    have hc := fun u hu => h.cells (g := g) rfl (j * 7 + i) u hu
    have hadd : ∀ k, (⟨g, 0, none⟩ : Addr).add k = ⟨g, k, none⟩ := fun k => by unfold Addr.add; split <;> simp_all
    simp only [hadd] at hc
    have hf : (flatN ls)[j * 7 + i]? = ls[j].cells[i]? := by
      have hsplit : ls = ls.take j ++ ls[j] :: ls.drop (j + 1) := by rw [← List.drop_eq_getElem_cons hj, List.take_append_drop]
      have hlen : (flatN (ls.take j)).length = j * 7 := by rw [flatN_length, List.length_take, Nat.min_eq_left (by omega)]
      have : flatN ls = flatN (ls.take j) ++ (ls[j].cells ++ flatN (ls.drop (j + 1))) := by
        conv => lhs; rw [hsplit]
        unfold flatN
        rw [List.flatMap_append, List.flatMap_cons]
      rw [this, List.getElem?_append_right (by omega), hlen, show j * 7 + i - j * 7 = i by omega, List.getElem?_append_left (by show i < 7; exact hi)]
    have hlt : i < ls[j].cells.length := hi
    rw [List.getElem?_eq_getElem hlt] at hf ⊢
    exact hc _ hf
theorem NewAt.rep {w W : World} {b : Nat} {x : D} {m : Int} {v : Value} (h : NewAt w W b (more x m) v) : Rep (fun _ => True) W (more x m) v (.slice none 0 0) (.slice none 0 0) :=
  (rep_iff _ _ _ _ _ _).2 ⟨h.2.1.mono (fun _ _ _ => trivial), ⟨none, 0, rfl, Nat.le_refl _, fun h => absurd rfl h⟩, ⟨none, 0, rfl, Nat.le_refl _, fun h => absurd rfl h⟩⟩
/-- what the names that are told mean for the law: not one of them is the new one -/
theorem none_binds {t : Tbl} (ht : t.Ok) {other : Int} {x : D} {m : Int} (hs : isSym (more x m) = true) {ys : List (Ne t)} (hy : ys.map (fun x => x.1.1) = namesOf t other) (hno : ∀ j, (hj : j < ys.length) → sameD ys[j].d (more x m) = false) (ho : 0 ≤ other ∧ other < (t.l.length : Int)) :
    ∀ i ∈ ups t.l other.toNat, binds t.l x.s (x.m ++ [m]) i = false := by
  intro i hi
  have e : namesOf t other = ups t.l other.toNat := by unfold namesOf; rw [if_neg (by omega)]
  rw [e] at hy
  rw [← hy] at hi
  obtain ⟨y, hy1, hy2⟩ := List.mem_map.1 hi
  obtain ⟨j, hj, rfl⟩ := List.getElem_of_mem hy1
  have h1 := hno j hj
  have hil : ys[j].1.1 < t.l.length := ys[j].1.2
  have hpos : 0 < ys[j].1.1 := by
    have : ys[j].1.1 ∈ ups t.l other.toNat := by rw [← hy]; exact List.mem_map.2 ⟨_, hy1, rfl⟩
    exact (ups_lt ht other.toNat (by omega) _ this).1
  have h2 := same_more' ht (List.getElem?_eq_getElem hil) hpos hs
  rw [show (t.l[ys[j].1.1]).id = ys[j].d from rfl, h1] at h2
  rw [← hy2]
  exact h2.symm
theorem names_le {t : Tbl} (h : t.Ok) (s : Int) : (namesOf t s).length ≤ 16384 := by
  unfold namesOf
  split
  · simp
  · have := ups_len h s.toNat (by omega)
    have := h.small.1
    omega
theorem Ne.wf {t : Tbl} (h : t.Ok) (y : Ne t) : Wf y.d := (id_clone h (List.getElem?_eq_getElem y.1.2)).1
end Sp
end Go.Proofs.YtjbjgceblanhpaaDoor
