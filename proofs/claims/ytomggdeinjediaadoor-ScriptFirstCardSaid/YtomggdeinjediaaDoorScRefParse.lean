/-
  The walk of the reference's Parse.
-/
import Derived.Test.YtomggdeinjediaaDoorScRefB
namespace Go.Proofs.YtomggdeinjediaaDoor
open Go.RowKit Go.Sort
namespace Sc
theorem numR_noblank (u : List UInt8) (h : numR u ≠ -1) : u.contains 32 = false := by
  have h1 := (numR_of u h).1
  cases hc : u.contains 32
  · rfl
  · rw [List.all_eq_true] at h1
    have := h1 32 (List.contains_iff_mem.1 hc)
    revert this
    decide
theorem low_nn (k : Nat) : 0 ≤ low k := by unfold low; split <;> omega
theorem top_le (k : Nat) : top k ≤ 65536 := by unfold top; split <;> omega
theorem may_bd (k : Nat) (n : Int) (h : may k n = true) : 0 ≤ n ∧ n ≤ 65536 := by
  unfold may at h
  rw [Bool.and_eq_true, decide_eq_true_eq, decide_eq_true_eq] at h
  have := low_nn k
  have := top_le k
  omega
/-- a line with a number, as the reference has it -/
theorem reads_ref (k : Nat) (t : List UInt8) (h : t.contains 10 = true) : reads k t =
    match strip (nm k ++ [32]) (t.takeWhile (· != 10)) with
    | none => none
    | some ws => match cuts ws with
      | [u] => if may k (numR u) = true then some (numR u, (t.dropWhile (· != 10)).tail) else none
      | _ => none := by
  unfold reads
  rw [line_yes t h]
  simp only []
  cases strip (nm k ++ [32]) (t.takeWhile (· != 10)) with
  | none => rfl
  | some ws =>
    simp only []
    by_cases hm : ∃ n, value ws = some n ∧ may k n = true
    · obtain ⟨n, hv, hm⟩ := hm
      obtain ⟨h1, h2, _⟩ := (value_num ws n).1 hv
      have hb := numR_noblank ws (by omega)
      rw [hv, cuts_no ws hb]
      simp only []
      rw [h1]
    · have hl : (match value ws with
        | none => none
        | some n => if may k n = true then some (n, (t.dropWhile (· != 10)).tail) else none) = none := by
        cases hv : value ws with
        | none => rfl
        | some n =>
          simp only []
          rw [if_neg (fun h => hm ⟨n, hv, h⟩)]
      refine Eq.trans hl ?_
      symm
      split
      · rename_i u hu
        by_cases hc : ws.contains 32 = true
        · rw [cuts_yes ws hc] at hu
          injection hu with _ hu
          exact absurd hu (cuts_ne _)
        · rw [cuts_no ws (by simpa using hc)] at hu
          injection hu with hu _
          subst hu
          rw [if_neg]
          intro h2
          have hb := may_bd k _ h2
          exact hm ⟨numR ws, (value_num ws _).2 ⟨rfl, hb.1, by omega⟩, h2⟩
      · rfl
theorem pick_num (wk : Int) (u : List UInt8) (hw : wk ≤ 16) : pick wk u = if 0 ≤ numR u ∧ numR u < wk then some (UInt8.ofNat (numR u).toNat) else none := by
  unfold pick
  cases hv : value u with
  | none =>
    simp only []
    rw [if_neg]
    rintro ⟨h1, h2⟩
    have := (value_num u (numR u)).2 ⟨rfl, h1, by omega⟩
    rw [hv] at this
    cases this
  | some n =>
    obtain ⟨h1, h2, h3⟩ := (value_num u n).1 hv
    simp only []
    rw [h1]
    by_cases hn : n < wk
    · rw [if_pos hn, if_pos ⟨h2, hn⟩]
    · rw [if_neg hn, if_neg (fun h => hn h.2)]
theorem cuts_le : ∀ (t u : List UInt8), u ∈ cuts t → u.length ≤ t.length := by
  intro t
  induction t with
  | nil => intro u hu; simp [cuts] at hu; rw [hu]; simp
  | cons c t ih =>
    intro u hu
    unfold cuts at hu
    split at hu
    · rcases List.mem_cons.1 hu with rfl | hu
      · simp
      · have := ih u hu
        simp only [List.length_cons]; omega
    · split at hu
      · rename_i h; exact absurd h (cuts_ne t)
      · rename_i h r hr
        rcases List.mem_cons.1 hu with rfl | hu
        · have := ih h (by rw [hr]; simp)
          simp only [List.length_cons]; omega
        · have := ih u (by rw [hr]; simp [hu])
          simp only [List.length_cons]; omega
theorem strip_le (p t ws : List UInt8) (h : strip p t = some ws) : ws.length ≤ t.length := by
  unfold strip at h
  split at h
  · injection h with h
    rw [← h, List.length_drop]; omega
  · cases h
theorem cuts_count : ∀ (t : List UInt8), (cuts t).length ≤ t.length + 1 := by
  intro t
  induction t with
  | nil => simp [cuts]
  | cons c t ih =>
    unfold cuts
    split
    · simp only [List.length_cons]; omega
    · split
      · rename_i h; exact absurd h (cuts_ne t)
      · rename_i h r hr
        rw [hr] at ih
        simp only [List.length_cons] at ih ⊢; omega
theorem strip_nil (p : List UInt8) (h : p ≠ []) : strip p [] = none := by
  unfold strip
  rw [if_neg]
  cases p with
  | nil => exact absurd rfl h
  | cons c p => simp
theorem reads_line {k : Nat} {t a : List UInt8} (hc : t.contains 10 = true) (ha : a = t.takeWhile (· != 10)) : (strip (nm k ++ [32]) a = none → reads k t = none) ∧ (∀ ws, strip (nm k ++ [32]) a = some ws → (¬ (∃ u, cuts ws = [u]) → reads k t = none) ∧ (∀ u, cuts ws = [u] → (may k (numR u) = false → reads k t = none) ∧ (may k (numR u) = true → reads k t = some (numR u, (t.dropWhile (· != 10)).tail)))) := by
  rw [reads_ref k t hc, ← ha]
  refine ⟨fun h => by rw [h], fun ws h => ?_⟩
  rw [h]
  simp only []
  refine ⟨fun hn => ?_, fun u hu => ?_⟩
  · split
    · rename_i u hu
      exact absurd ⟨u, hu⟩ hn
    · rfl
  · rw [hu]
    simp only []
    exact ⟨fun hm => by rw [hm]; rfl, fun hm => by rw [hm]; rfl⟩
theorem str_cell {w : World} {b g c : Nat} {L : List (List UInt8)} (ho : w.ownsRow b 9 1 (.slice (some ⟨g, 0, none⟩) L.length c) L.length (L.map strV)) (j : Nat) (hj : j < L.length) : w.cell? ⟨g, j, none⟩ = some (.string ⟨L[j].toArray⟩) := by
  rw [ho.cellAt j (by omega), List.getElem?_map, List.getElem?_eq_getElem hj]
  rfl
theorem str_form {w : World} {b : Nat} {pv : Value} {L : List (List UInt8)} (ho : w.ownsRow b 9 1 pv L.length (L.map strV)) (hL : L ≠ []) : ∃ g c, pv = .slice (some ⟨g, 0, none⟩) L.length c := by
  rcases Joins.ownsRow_forms ho with ⟨rfl, hz⟩ | ⟨g, cap, rfl, _⟩
  · exact absurd (List.eq_nil_of_length_eq_zero hz) hL
  · exact ⟨g, cap, rfl⟩
end Sc
end Go.Proofs.YtomggdeinjediaaDoor
