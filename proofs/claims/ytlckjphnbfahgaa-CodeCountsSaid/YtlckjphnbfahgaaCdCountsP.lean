/-
  CodeCounts: the plain laws.
-/
import Derived.Test.YtlckjphnbfahgaaCdCheckP
import Derived.Test.YtlckjphnbfahgaaCdWaysP
import Derived.Test.YtlckjphnbfahgaaDtOwn
namespace Go.Proofs.Ytlckjphnbfahgaa
namespace Cd
def setC (p : Prog) (i : Nat) (c : Code) : Prog := { p with codes := p.codes.set i c }
theorem counts_max {p : Prog} {i : Nat} (hi : i < p.codes.length) (h : checkP p = 0) (m : Int) (hm : m ≠ p.codes[i].max) : checkP (setC p i { p.codes[i] with max := m }) = 90 := by
  obtain ⟨-, -, hg⟩ := check_codes h
  obtain ⟨fin, hf⟩ := (good_good (hg p.codes[i] (List.getElem_mem hi))).flow
  have hi2 : i < (setC p i { p.codes[i] with max := m }).codes.length := by show i < (p.codes.set i _).length; rw [List.length_set]; exact hi
  refine check_code i hi2 ?_
  have e : (setC p i { p.codes[i] with max := m }).codes[i] = { p.codes[i] with max := m } := List.getElem_set_self _
  rw [e]
  cases hgd : good (setC p i { p.codes[i] with max := m }) { p.codes[i] with max := m } with
  | false => rfl
  | true =>
    obtain ⟨fin2, hf2⟩ := (good_good hgd).flow
    have hf3 : flowW p.codes[i].ins 0 (start p.codes[i].ins.length) 0 = some (fin2, m) := hf2
    rw [hf] at hf3
    exact absurd (Prod.mk.inj (Option.some.inj hf3)).2.symm hm
theorem counts_more {p : Prog} {i : Nat} (hi : i < p.codes.length) (h : checkP p = 0) (x : Ins) : checkP (setC p i { p.codes[i] with ins := p.codes[i].ins ++ [x] }) = 90 := by
  rcases check_is (setC p i { p.codes[i] with ins := p.codes[i].ins ++ [x] }) with h2 | h2
  · obtain ⟨-, -, hg⟩ := check_codes h
    obtain ⟨-, -, hg2⟩ := check_codes h2
    have hi2 : i < (setC p i { p.codes[i] with ins := p.codes[i].ins ++ [x] }).codes.length := by show i < (p.codes.set i _).length; rw [List.length_set]; exact hi
    have e : (setC p i { p.codes[i] with ins := p.codes[i].ins ++ [x] }).codes[i] = { p.codes[i] with ins := p.codes[i].ins ++ [x] } := List.getElem_set_self _
    have hgd := hg2 _ (List.getElem_mem hi2)
    rw [e] at hgd
    obtain ⟨hfw, fin, hfl⟩ := (good_good hgd).flow' hg2
    have hx : Few x := hfw x (List.mem_append_right _ (List.mem_singleton_self x))
    have hm := (good_good (hg p.codes[i] (List.getElem_mem hi))).more hg hx.1.1
    rw [show ({ p.codes[i] with ins := p.codes[i].ins ++ [x] } : Code).ins = p.codes[i].ins ++ [x] from rfl] at hfl
    rw [hm] at hfl
    cases hfl
  · exact h2
theorem setC_same {p : Prog} {i : Nat} (hi : i < p.codes.length) : setC p i { p.codes[i] with max := p.codes[i].max } = p := by
  unfold setC
  rw [show ({ p.codes[i] with max := p.codes[i].max } : Code) = p.codes[i] from rfl, List.set_getElem_self]
theorem clone_same {p : Prog} (h : checkP p = 0) : p.consts.map Dt.clone = p.consts := by
  obtain ⟨-, hc, -, -⟩ := check_parts h
  conv => rhs; rw [← List.map_id p.consts]
  apply List.map_congr_left
  intro d hd
  obtain ⟨i, hi, rfl⟩ := List.getElem_of_mem hd
  have := hc i hi
  rw [constOk_at hi] at this
  have h2 : plainD p.consts[i] = true := by
    cases e : plainD p.consts[i] with
    | true => rfl
    | false => rw [e] at this; cases this
  unfold plainD at h2
  rw [Bool.and_eq_true, decide_eq_true_eq] at h2
  unfold Dt.clone
  rw [if_pos h2.1]
  rfl
theorem check_small {p : Prog} (h : checkP p = 0) : p.codes.length ≤ 1024 ∧ p.consts.length ≤ 1024 ∧ p.names.length ≤ 1024 ∧ ∀ c ∈ p.codes, c.ins.length ≤ 4096 := by
  obtain ⟨hf, -, -, -⟩ := check_parts h
  obtain ⟨-, -, hg⟩ := check_codes h
  refine ⟨?_, ?_, ?_, fun c hc => (good_good (hg c hc)).len⟩
  · exact Nat.le_of_not_lt fun h => hf (.inr (.inl h))
  · exact Nat.le_of_not_lt fun h => hf (.inr (.inr (.inl h)))
  · exact Nat.le_of_not_lt fun h => hf (.inr (.inr (.inr (.inl h))))
end Cd
end Go.Proofs.Ytlckjphnbfahgaa
