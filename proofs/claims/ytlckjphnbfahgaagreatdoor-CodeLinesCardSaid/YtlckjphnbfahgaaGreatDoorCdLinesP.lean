/-
  A code's lines: the plain law.
-/
import Derived.Test.YtlckjphnbfahgaaGreatDoorCdWaysP
import Derived.Test.YtlckjphnbfahgaaGreatDoorCdOps
import Derived.Test.YtlckjphnbfahgaaGreatDoorCdCheckP
import Derived.Lib.ItoaMem
import Derived.Lib.ItoaLen
namespace Go.Proofs.YtlckjphnbfahgaaGreatDoor
namespace Cd
def z0 : Ins := ⟨0, 0, 0⟩
def s0 (j : Nat) (x : Ins) : List UInt8 := (Lib.decDigits j ++ [32]) ++ (nm x.o).data.toList
def s1 (j : Nat) (x : Ins) : List UInt8 := if decide ((op x.o).a ≠ 0) = true then s0 j x ++ ([32] ++ Lib.decDigits x.a.toNat) else s0 j x
def s2 (j : Nat) (x : Ins) : List UInt8 := if (op x.o).pb = true then s1 j x ++ ([32] ++ Lib.decDigits x.b.toNat) else s1 j x
def lineB (j : Nat) (x : Ins) : ByteArray := ⟨(s2 j x).toArray⟩
/-- the first lines of a code -/
def linesN (c : Code) (n : Nat) : List ByteArray := (List.range n).map fun j => lineB j (c.ins.getD j z0)
def linesOf (p : Prog) (k : Int) : List ByteArray := if checkP p ≠ 0 ∨ k < 0 ∨ (p.codes.length : Int) ≤ k then [] else match p.codes[k.toNat]? with
  | some c => linesN c c.ins.length
  | none => []
theorem linesN_succ (c : Code) (n : Nat) : linesN c (n + 1) = linesN c n ++ [lineB n (c.ins.getD n z0)] := by
  unfold linesN
  rw [List.range_succ, List.map_append]
  rfl
theorem linesN_len (c : Code) (n : Nat) : (linesN c n).length = n := by unfold linesN; simp
theorem nm_len (n : Int) : (nm n).data.toList.length ≤ 10 := by
  unfold nm
  split
  · obtain ⟨k, rfl⟩ : ∃ k : Nat, n = (k : Int) := ⟨n.toNat, by omega⟩
    rcases k_cases (k := k) (by omega) (by omega) with rfl | rfl | rfl | rfl | rfl | rfl | rfl | rfl | rfl | rfl | rfl | rfl | rfl | rfl | rfl | rfl
    all_goals decide
  · exact Nat.zero_le _
theorem pb_iff {n : Int} (h1 : 1 ≤ n) (h2 : n ≤ 16) : (op n).pb = (n == 12) := by
  obtain ⟨k, rfl⟩ : ∃ k : Nat, n = (k : Int) := ⟨n.toNat, by omega⟩
  rcases k_cases (k := k) (by omega) (by omega) with rfl | rfl | rfl | rfl | rfl | rfl | rfl | rfl | rfl | rfl | rfl | rfl | rfl | rfl | rfl | rfl
  all_goals decide
theorem pb_a {n : Int} (h : (op n).pb = true) : decide ((op n).a ≠ 0) = true := by
  by_cases hn : n < 1 ∨ 16 < n
  · unfold op at h
    rw [op_out hn] at h
    cases h
  · have e := pb_iff (n := n) (by omega) (by omega)
    rw [h] at e
    have : n = 12 := by simpa using e.symm
    subst this
    decide
theorem lim_lo (p : Prog) (c : Code) (j t : Nat) : 0 ≤ (lim p c j t).1 := by
  unfold lim
  split <;> simp only [] <;> omega
/-- what counts of an instruction that may be -/
theorem ins_pos {p : Prog} {c : Code} {j : Nat} {x : Ins} (h : OkIns p c j x) (hg : ∀ c ∈ p.codes, good p c = true) : 0 ≤ x.a ∧ 0 ≤ x.b := by
  have h1 := h.lo
  have h2 := lim_lo p c j (op x.o).a
  refine ⟨by omega, ?_⟩
  cases e : (op x.o).pb with
  | false => rw [h.b0 e]; decide
  | true =>
    rw [h.b e]
    unfold capsOf
    split
    · rename_i d hd
      exact (good_good (hg d (List.mem_of_getElem? hd))).caps.1
    · decide
theorem linesOf_yes {p : Prog} {k : Nat} (h : checkP p = 0) (hk : k < p.codes.length) : linesOf p (k : Int) = linesN p.codes[k] p.codes[k].ins.length := by
  unfold linesOf
  rw [if_neg (by intro h2; rcases h2 with h2 | h2 | h2 <;> omega), Int.toNat_natCast, List.getElem?_eq_getElem hk]
theorem linesOf_no {p : Prog} {k : Int} (h : checkP p ≠ 0 ∨ k < 0 ∨ (p.codes.length : Int) ≤ k) : linesOf p k = [] := by
  unfold linesOf
  rw [if_pos h]
end Cd
end Go.Proofs.YtlckjphnbfahgaaGreatDoor
