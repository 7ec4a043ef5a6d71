/-
  Check: the plain laws.
-/
import Derived.Test.YtlckjphnbfahgaaGreatDoorCdModel
import Derived.Test.YtlckjphnbfahgaaGreatDoorCdIndex
namespace Go.Proofs.YtlckjphnbfahgaaGreatDoor
namespace Cd
def dflt : Dt.D := .mk 0 0 ⟨#[]⟩ [] [] []
def constOk (p : Prog) (i : Nat) : Bool := plainD (p.consts.getD i dflt) && !((p.consts.take i).any fun x => Dt.sameD x (p.consts.getD i dflt))
def nameOk (p : Prog) (i : Nat) : Bool := Lx.symbol (p.names.getD i ⟨#[]⟩).data.toList && !((p.names.take i).contains (p.names.getD i ⟨#[]⟩))
/-- what is refused at once -/
def Far (p : Prog) : Prop := p.codes.length = 0 ∨ 1024 < p.codes.length ∨ 1024 < p.consts.length ∨ 1024 < p.names.length ∨ (p.codes.head?.elim true fun c => decide (c.params ≠ 0 ∨ c.caps ≠ 0)) = true
instance (p : Prog) : Decidable (Far p) := by unfold Far; infer_instance
theorem checkP_eq (p : Prog) : checkP p = if Far p then 90
  else if ((List.range p.consts.length).all (constOk p)) = false then 90
  else if ((List.range p.names.length).all (nameOk p)) = false then 90
  else if p.codes.all (good p) = false then 90 else 0 := rfl
theorem check_far {p : Prog} (h : Far p) : checkP p = 90 := by rw [checkP_eq, if_pos h]
theorem all_no {f : Nat → Bool} {n i : Nat} (hi : i < n) (h : f i = false) : (List.range n).all f = false := by
  rw [List.all_eq_false]
  exact ⟨i, List.mem_range.2 hi, by rw [h]; decide⟩
theorem all_yes {f : Nat → Bool} {n : Nat} (h : ∀ i, i < n → f i = true) : (List.range n).all f = true := by
  rw [List.all_eq_true]
  exact fun i hi => h i (List.mem_range.1 hi)
theorem check_const {p : Prog} (i : Nat) (hi : i < p.consts.length) (h : constOk p i = false) : checkP p = 90 := by
  rw [checkP_eq]
  split
  · rfl
  · rw [if_pos (all_no hi h)]
theorem check_name {p : Prog} (i : Nat) (hi : i < p.names.length) (h : nameOk p i = false) : checkP p = 90 := by
  rw [checkP_eq]
  split
  · rfl
  split
  · rfl
  · rw [if_pos (all_no hi h)]
theorem check_code {p : Prog} (i : Nat) (hi : i < p.codes.length) (h : good p p.codes[i] = false) : checkP p = 90 := by
  rw [checkP_eq]
  split
  · rfl
  split
  · rfl
  split
  · rfl
  · rw [if_pos]
    rw [List.all_eq_false]
    exact ⟨p.codes[i], List.getElem_mem hi, by rw [h]; decide⟩
theorem check_yes {p : Prog} (h0 : ¬ Far p) (h1 : ∀ i, i < p.consts.length → constOk p i = true) (h2 : ∀ i, i < p.names.length → nameOk p i = true) (h3 : ∀ i, (hi : i < p.codes.length) → good p p.codes[i] = true) : checkP p = 0 := by
  rw [checkP_eq, if_neg h0, if_neg (by rw [all_yes h1]; decide), if_neg (by rw [all_yes h2]; decide), if_neg]
  rw [Bool.not_eq_false, List.all_eq_true]
  intro c hc
  obtain ⟨i, hi, rfl⟩ := List.getElem_of_mem hc
  exact h3 i hi
theorem check_parts {p : Prog} (h : checkP p = 0) : ¬ Far p ∧ (∀ i, i < p.consts.length → constOk p i = true) ∧ (∀ i, i < p.names.length → nameOk p i = true) ∧ ∀ i, (hi : i < p.codes.length) → good p p.codes[i] = true := by
  refine ⟨fun h1 => ?_, fun i hi => ?_, fun i hi => ?_, fun i hi => ?_⟩
  · rw [check_far h1] at h; cases h
  · cases e : constOk p i with
    | true => rfl
    | false => rw [check_const i hi e] at h; cases h
  · cases e : nameOk p i with
    | true => rfl
    | false => rw [check_name i hi e] at h; cases h
  · cases e : good p p.codes[i] with
    | true => rfl
    | false => rw [check_code i hi e] at h; cases h
theorem check_is (p : Prog) : checkP p = 0 ∨ checkP p = 90 := by
  rw [checkP_eq]
  repeat' split
  all_goals first | exact .inl rfl | exact .inr rfl
theorem constOk_at {p : Prog} {i : Nat} (hi : i < p.consts.length) : constOk p i = (plainD p.consts[i] && !((p.consts.take i).any fun x => Dt.sameD x p.consts[i])) := by
  unfold constOk
  rw [List.getD_eq_getElem?_getD, List.getElem?_eq_getElem hi]
  rfl
theorem nameOk_at {p : Prog} {i : Nat} (hi : i < p.names.length) : nameOk p i = (Lx.symbol p.names[i].data.toList && !((p.names.take i).contains p.names[i])) := by
  unfold nameOk
  rw [List.getD_eq_getElem?_getD, List.getElem?_eq_getElem hi]
  rfl
end Cd
end Go.Proofs.YtlckjphnbfahgaaGreatDoor
