/-
  CodeWays: the plain law: of a code that may be.
-/
import Derived.Test.YtlckjphnbfahgaaGreatDoorCdModel
import Derived.Test.YtlckjphnbfahgaaGreatDoorCdOper
namespace Go.Proofs.YtlckjphnbfahgaaGreatDoor
namespace Cd
theorem op_pa (n : Int) : (op n).pa = true → (op n).a = 7 := by
  rcases op_cases n with h | rfl | rfl | rfl | rfl | rfl | rfl | rfl | rfl | rfl | rfl | rfl | rfl | rfl | rfl | rfl | rfl
  · unfold op; rw [op_out h]; decide
  all_goals decide
theorem op_needs (n : Int) : 0 ≤ (op n).needs ∧ (op n).needs ≤ 2 := by
  rcases op_cases n with h | rfl | rfl | rfl | rfl | rfl | rfl | rfl | rfl | rfl | rfl | rfl | rfl | rfl | rfl | rfl | rfl
  · unfold op; rw [op_out h]; decide
  all_goals decide
theorem op_some {n : Int} (h : (opT n).isSome = true) : 1 ≤ n ∧ n ≤ 16 := by
  apply Classical.byContradiction
  intro h2
  rw [op_out (by omega)] at h
  cases h
/-- an instruction that may be -/
structure OkIns (p : Prog) (c : Code) (j : Nat) (x : Ins) : Prop where
  some : 1 ≤ x.o ∧ x.o ≤ 16
  lo : (lim p c j (op x.o).a).1 ≤ x.a
  hi : x.a < (lim p c j (op x.o).a).2
  b : (op x.o).pb = true → x.b = capsOf p x.a
  b0 : (op x.o).pb = false → x.b = 0
theorem okIns_ok {p : Prog} {c : Code} {j : Nat} {x : Ins} (h : okIns p c j x = true) : OkIns p c j x := by
  unfold okIns at h
  simp only [Bool.and_eq_true, decide_eq_true_eq] at h
  obtain ⟨⟨⟨h1, h2⟩, h3⟩, h4⟩ := h
  refine ⟨op_some h1, h2, h3, fun e => ?_, fun e => ?_⟩
  · rw [e, if_pos rfl] at h4
    exact of_decide_eq_true h4
  · rw [e, if_neg (by decide)] at h4
    exact of_decide_eq_true h4
theorem within_iff {n m : Int} : within n m = true ↔ 0 ≤ n ∧ n ≤ m := by unfold within; simp
/-- a code that may be -/
structure Good (p : Prog) (c : Code) : Prop where
  params : 0 ≤ c.params ∧ c.params ≤ 32
  rest : 0 ≤ c.rest ∧ c.rest ≤ min c.params 1
  caps : 0 ≤ c.caps ∧ c.caps ≤ 64
  ne : c.ins ≠ []
  len : c.ins.length ≤ 4096
  ins : ∀ j, (h : j < c.ins.length) → OkIns p c j c.ins[j]
  flow : ∃ fin, flowW c.ins 0 (start c.ins.length) 0 = some (fin, c.max)
  max : c.max ≤ 256
theorem good_good {p : Prog} {c : Code} (h : good p c = true) : Good p c := by
  unfold good at h
  simp only [Bool.and_eq_true, decide_eq_true_eq, within_iff] at h
  obtain ⟨⟨⟨⟨⟨⟨h1, h2⟩, h3⟩, h4⟩, h5⟩, h6⟩, h7⟩ := h
  have h8 : ∃ fin, flowW c.ins 0 (start c.ins.length) 0 = some (fin, c.max) ∧ c.max ≤ 256 := by
    cases hf : flowW c.ins 0 (start c.ins.length) 0 with
    | none => rw [hf] at h7; cases h7
    | some r =>
      obtain ⟨fin, most⟩ := r
      rw [hf] at h7
      simp only [Bool.and_eq_true, decide_eq_true_eq] at h7
      obtain ⟨rfl, h9⟩ := h7
      exact ⟨fin, rfl, h9⟩
  obtain ⟨fin, hf, hm⟩ := h8
  refine ⟨h1, h2, h3, fun e => h4 (by rw [e]; rfl), h5, fun j hj => ?_, ⟨fin, hf⟩, hm⟩
  unfold allIns at h6
  rw [List.all_eq_true] at h6
  have := h6 j (List.mem_range.2 hj)
  rw [List.getD_eq_getElem?_getD, List.getElem?_eq_getElem hj] at this
  exact okIns_ok this
theorem capsOf_in {p : Prog} (hg : ∀ c ∈ p.codes, good p c = true) (k : Int) : 0 ≤ capsOf p k ∧ capsOf p k ≤ 64 := by
  unfold capsOf
  cases h : p.codes[k.toNat]? with
  | none => exact ⟨Int.le_refl _, by decide⟩
  | some c => exact (good_good (hg c (List.mem_of_getElem? h))).caps
theorem OkIns.few {p : Prog} {c : Code} {j : Nat} {x : Ins} (h : OkIns p c j x) (hg : ∀ c ∈ p.codes, good p c = true) : Few x ∧ ((op x.o).a = 5 → (j : Int) + 1 ≤ x.a ∧ x.a < c.ins.length) ∧ ((op x.o).pa = true → 0 ≤ x.a ∧ x.a ≤ 32) ∧ ((op x.o).pb = true → 0 ≤ x.b ∧ x.b ≤ 64) := by
  have hn := op_needs x.o
  have h5 : (op x.o).a = 5 → (j : Int) + 1 ≤ x.a ∧ x.a < c.ins.length := fun e => by
    have h1 := h.lo
    have h2 := h.hi
    rw [e] at h1 h2
    exact ⟨h1, h2⟩
  have h7 : (op x.o).pa = true → 0 ≤ x.a ∧ x.a ≤ 32 := fun e => by
    have h1 := h.lo
    have h2 := h.hi
    rw [op_pa _ e] at h1 h2
    have h3 : (0 : Int) ≤ x.a := h1
    have h4 : x.a < 33 := h2
    omega
  have h6 : (op x.o).pb = true → 0 ≤ x.b ∧ x.b ≤ 64 := fun e => by
    rw [h.b e]
    exact capsOf_in hg _
  refine ⟨⟨⟨?_, fun e => by have := h5 e; omega⟩, ?_⟩, h5, h7, h6⟩
  all_goals
    unfold need
    cases hpa : (op x.o).pa
    all_goals cases hpb : (op x.o).pb
    all_goals
      simp
      try have := h7 hpa
      try have := h6 hpb
      omega
/-- how one goes through a code -/
structure Ways (p : Prog) (c : Code) (fin : List Int) : Prop where
  len : fin.length = c.ins.length
  zero : g fin 0 = 0
  max : 0 ≤ c.max ∧ c.max ≤ 256
  few : 1 ≤ c.ins.length ∧ c.ins.length ≤ 4096
  fine : ∀ i, (hi : i < c.ins.length) → Fine fin c.max c.ins[i] i
  ok : ∀ i, (hi : i < c.ins.length) → OkIns p c i c.ins[i]
  fews : ∀ i, (hi : i < c.ins.length) → Few c.ins[i] ∧ ((op c.ins[i].o).a = 5 → (i : Int) + 1 ≤ c.ins[i].a ∧ c.ins[i].a < c.ins.length) ∧ ((op c.ins[i].o).pa = true → 0 ≤ c.ins[i].a ∧ c.ins[i].a ≤ 32) ∧ ((op c.ins[i].o).pb = true → 0 ≤ c.ins[i].b ∧ c.ins[i].b ≤ 64)
theorem Good.flow' {p : Prog} {c : Code} (hc : Good p c) (hg : ∀ c ∈ p.codes, good p c = true) : (∀ x ∈ c.ins, Few x) ∧ ∃ fin, Cd.flow c.ins = some (fin, c.max) := by
  have hf : ∀ x ∈ c.ins, Few x := fun x hx => by
    obtain ⟨i, hi, rfl⟩ := List.getElem_of_mem hx
    exact ((hc.ins i hi).few hg).1
  obtain ⟨fin, h⟩ := hc.flow
  refine ⟨hf, fin, ?_⟩
  have hl := hc.len
  rw [flowW_eq c.ins 0 _ 0 0 hf (start_le _) (by omega)] at h
  exact h
theorem Good.ways {p : Prog} {c : Code} (hc : Good p c) (hg : ∀ c ∈ p.codes, good p c = true) : ∃ fin, Ways p c fin := by
  obtain ⟨hf, fin, h⟩ := hc.flow' hg
  obtain ⟨h1, h2, h3, h4⟩ := flow_fine h (fun x hx => (hf x hx).1) hc.ne
  have hl := hc.len
  have hp : 0 < c.ins.length := List.length_pos_iff.2 hc.ne
  exact ⟨fin, h1, h2, ⟨h3, hc.max⟩, ⟨hp, hl⟩, h4, hc.ins, fun i hi => (hc.ins i hi).few hg⟩
/-- with an instruction more there is none -/
theorem Good.more {p : Prog} {c : Code} (hc : Good p c) (hg : ∀ c ∈ p.codes, good p c = true) {y : Ins} (hy : 0 ≤ need y) : Cd.flow (c.ins ++ [y]) = none := by
  obtain ⟨hf, fin, h⟩ := hc.flow' hg
  exact flow_app h (fun x hx => (hf x hx).1) hc.ne hy
theorem check_codes {p : Prog} (h : checkP p = 0) : p.codes ≠ [] ∧ p.codes.length ≤ 1024 ∧ ∀ c ∈ p.codes, good p c = true := by
  unfold checkP at h
  split at h
  · cases h
  rename_i h1
  split at h
  · cases h
  split at h
  · cases h
  split at h
  · cases h
  rename_i h4
  refine ⟨fun e => h1 (.inl (by rw [e]; rfl)), ?_, ?_⟩
  · apply Classical.byContradiction
    intro h2
    exact h1 (.inr (.inl (by omega)))
  · rw [Bool.not_eq_false] at h4
    exact List.all_eq_true.1 h4
/-- how the document reckons what an instruction leaves -/
theorem leaves_eq {x : Ins} (h : 1 ≤ x.o ∧ x.o ≤ 16) : (op x.o).en = true ↔ (x.o = 14 ∨ x.o = 15) := by
  rcases op_cases x.o with h1 | e | e | e | e | e | e | e | e | e | e | e | e | e | e | e | e
  · omega
  all_goals rw [e]; decide
theorem jumps_eq {x : Ins} (h : 1 ≤ x.o ∧ x.o ≤ 16) : (op x.o).a = 5 ↔ (x.o = 10 ∨ x.o = 11) := by
  rcases op_cases x.o with h1 | e | e | e | e | e | e | e | e | e | e | e | e | e | e | e | e
  · omega
  all_goals rw [e]; decide
end Cd
end Go.Proofs.YtlckjphnbfahgaaGreatDoor
