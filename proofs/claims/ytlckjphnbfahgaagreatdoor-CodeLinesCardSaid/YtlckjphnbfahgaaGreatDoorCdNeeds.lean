/-
  shuttleref09.Needs at an instruction that may be.
-/
import Derived.Test.YtlckjphnbfahgaaGreatDoorCdWaysP
namespace Go.Proofs.YtlckjphnbfahgaaGreatDoor
open Go.RowKit
attribute [local go_sem] Oper.semAt_some
set_option maxRecDepth 100000 in
theorem needs09_1 (a b : Int) (w : World) : Calls Tryz.prog 73 #[.agg #[.int .i64 1, .int .i64 a, .int .i64 b]] w fun e w' => e = .returned (.tuple #[.int .i64 0, .int .i64 1]) ∧ Below w.heap.size w w' := by
  have HB : Hid (Below w.heap.size w (w.alloc (.cells #[.int .i64 1, .int .i64 a, .int .i64 b] 55))) := (Below.refl _ w).alloc (Nat.le_refl _) _
  go_enter Tryz.func73, Tryz.ntmps73
  go_wp2
  go_ret2
  exact ⟨rfl, HB.out⟩
set_option maxRecDepth 100000 in
theorem needs09_2 (a b : Int) (w : World) : Calls Tryz.prog 73 #[.agg #[.int .i64 2, .int .i64 a, .int .i64 b]] w fun e w' => e = .returned (.tuple #[.int .i64 0, .int .i64 1]) ∧ Below w.heap.size w w' := by
  have HB : Hid (Below w.heap.size w (w.alloc (.cells #[.int .i64 2, .int .i64 a, .int .i64 b] 55))) := (Below.refl _ w).alloc (Nat.le_refl _) _
  go_enter Tryz.func73, Tryz.ntmps73
  go_wp2
  go_ret2
  exact ⟨rfl, HB.out⟩
set_option maxRecDepth 100000 in
theorem needs09_3 (a b : Int) (w : World) : Calls Tryz.prog 73 #[.agg #[.int .i64 3, .int .i64 a, .int .i64 b]] w fun e w' => e = .returned (.tuple #[.int .i64 0, .int .i64 1]) ∧ Below w.heap.size w w' := by
  have HB : Hid (Below w.heap.size w (w.alloc (.cells #[.int .i64 3, .int .i64 a, .int .i64 b] 55))) := (Below.refl _ w).alloc (Nat.le_refl _) _
  go_enter Tryz.func73, Tryz.ntmps73
  go_wp2
  go_ret2
  exact ⟨rfl, HB.out⟩
set_option maxRecDepth 100000 in
theorem needs09_4 (a b : Int) (w : World) : Calls Tryz.prog 73 #[.agg #[.int .i64 4, .int .i64 a, .int .i64 b]] w fun e w' => e = .returned (.tuple #[.int .i64 0, .int .i64 1]) ∧ Below w.heap.size w w' := by
  have HB : Hid (Below w.heap.size w (w.alloc (.cells #[.int .i64 4, .int .i64 a, .int .i64 b] 55))) := (Below.refl _ w).alloc (Nat.le_refl _) _
  go_enter Tryz.func73, Tryz.ntmps73
  go_wp2
  go_ret2
  exact ⟨rfl, HB.out⟩
set_option maxRecDepth 100000 in
theorem needs09_5 (a b : Int) (w : World) : Calls Tryz.prog 73 #[.agg #[.int .i64 5, .int .i64 a, .int .i64 b]] w fun e w' => e = .returned (.tuple #[.int .i64 0, .int .i64 0]) ∧ Below w.heap.size w w' := by
  have HB : Hid (Below w.heap.size w (w.alloc (.cells #[.int .i64 5, .int .i64 a, .int .i64 b] 55))) := (Below.refl _ w).alloc (Nat.le_refl _) _
  go_enter Tryz.func73, Tryz.ntmps73
  go_wp2
  go_ret2
  exact ⟨rfl, HB.out⟩
set_option maxRecDepth 100000 in
theorem needs09_6 (a b : Int) (w : World) : Calls Tryz.prog 73 #[.agg #[.int .i64 6, .int .i64 a, .int .i64 b]] w fun e w' => e = .returned (.tuple #[.int .i64 1, .int .i64 1]) ∧ Below w.heap.size w w' := by
  have HB : Hid (Below w.heap.size w (w.alloc (.cells #[.int .i64 6, .int .i64 a, .int .i64 b] 55))) := (Below.refl _ w).alloc (Nat.le_refl _) _
  go_enter Tryz.func73, Tryz.ntmps73
  go_wp2
  go_ret2
  exact ⟨rfl, HB.out⟩
set_option maxRecDepth 100000 in
theorem needs09_7 (a b : Int) (w : World) : Calls Tryz.prog 73 #[.agg #[.int .i64 7, .int .i64 a, .int .i64 b]] w fun e w' => e = .returned (.tuple #[.int .i64 2, .int .i64 1]) ∧ Below w.heap.size w w' := by
  have HB : Hid (Below w.heap.size w (w.alloc (.cells #[.int .i64 7, .int .i64 a, .int .i64 b] 55))) := (Below.refl _ w).alloc (Nat.le_refl _) _
  go_enter Tryz.func73, Tryz.ntmps73
  go_wp2
  go_ret2
  exact ⟨rfl, HB.out⟩
set_option maxRecDepth 100000 in
theorem needs09_8 (a b : Int) (w : World) : Calls Tryz.prog 73 #[.agg #[.int .i64 8, .int .i64 a, .int .i64 b]] w fun e w' => e = .returned (.tuple #[.int .i64 1, .int .i64 1]) ∧ Below w.heap.size w w' := by
  have HB : Hid (Below w.heap.size w (w.alloc (.cells #[.int .i64 8, .int .i64 a, .int .i64 b] 55))) := (Below.refl _ w).alloc (Nat.le_refl _) _
  go_enter Tryz.func73, Tryz.ntmps73
  go_wp2
  go_ret2
  exact ⟨rfl, HB.out⟩
set_option maxRecDepth 100000 in
theorem needs09_9 (a b : Int) (w : World) : Calls Tryz.prog 73 #[.agg #[.int .i64 9, .int .i64 a, .int .i64 b]] w fun e w' => e = .returned (.tuple #[.int .i64 1, .int .i64 1]) ∧ Below w.heap.size w w' := by
  have HB : Hid (Below w.heap.size w (w.alloc (.cells #[.int .i64 9, .int .i64 a, .int .i64 b] 55))) := (Below.refl _ w).alloc (Nat.le_refl _) _
  go_enter Tryz.func73, Tryz.ntmps73
  go_wp2
  go_ret2
  exact ⟨rfl, HB.out⟩
set_option maxRecDepth 100000 in
theorem needs09_10 (a b : Int) (w : World) : Calls Tryz.prog 73 #[.agg #[.int .i64 10, .int .i64 a, .int .i64 b]] w fun e w' => e = .returned (.tuple #[.int .i64 0, .int .i64 0]) ∧ Below w.heap.size w w' := by
  have HB : Hid (Below w.heap.size w (w.alloc (.cells #[.int .i64 10, .int .i64 a, .int .i64 b] 55))) := (Below.refl _ w).alloc (Nat.le_refl _) _
  go_enter Tryz.func73, Tryz.ntmps73
  go_wp2
  go_ret2
  exact ⟨rfl, HB.out⟩
set_option maxRecDepth 100000 in
theorem needs09_11 (a b : Int) (w : World) : Calls Tryz.prog 73 #[.agg #[.int .i64 11, .int .i64 a, .int .i64 b]] w fun e w' => e = .returned (.tuple #[.int .i64 1, .int .i64 0]) ∧ Below w.heap.size w w' := by
  have HB : Hid (Below w.heap.size w (w.alloc (.cells #[.int .i64 11, .int .i64 a, .int .i64 b] 55))) := (Below.refl _ w).alloc (Nat.le_refl _) _
  go_enter Tryz.func73, Tryz.ntmps73
  go_wp2
  go_ret2
  exact ⟨rfl, HB.out⟩
set_option maxRecDepth 100000 in
theorem needs09_12 (a b : Int) (_hb : 0 ≤ b ∧ b ≤ 64) (w : World) : Calls Tryz.prog 73 #[.agg #[.int .i64 12, .int .i64 a, .int .i64 b]] w fun e w' => e = .returned (.tuple #[.int .i64 b, .int .i64 1]) ∧ Below w.heap.size w w' := by
  have HB : Hid (Below w.heap.size w (w.alloc (.cells #[.int .i64 12, .int .i64 a, .int .i64 b] 55))) := (Below.refl _ w).alloc (Nat.le_refl _) _
  go_enter Tryz.func73, Tryz.ntmps73
  go_wp2
  go_ret2
  exact ⟨rfl, HB.out⟩
set_option maxRecDepth 100000 in
theorem needs09_13 (a b : Int) (ha : 0 ≤ a ∧ a ≤ 32) (w : World) : Calls Tryz.prog 73 #[.agg #[.int .i64 13, .int .i64 a, .int .i64 b]] w fun e w' => e = .returned (.tuple #[.int .i64 (a + 1), .int .i64 1]) ∧ Below w.heap.size w w' := by
  have HB : Hid (Below w.heap.size w (w.alloc (.cells #[.int .i64 13, .int .i64 a, .int .i64 b] 55))) := (Below.refl _ w).alloc (Nat.le_refl _) _
  have hw : -9223372036854775808 ≤ a + 1 ∧ a + 1 ≤ 9223372036854775807 := by omega
  go_enter Tryz.func73, Tryz.ntmps73
  go_wp2
  go_ret2
  exact ⟨rfl, HB.out⟩
set_option maxRecDepth 100000 in
theorem needs09_14 (a b : Int) (ha : 0 ≤ a ∧ a ≤ 32) (w : World) : Calls Tryz.prog 73 #[.agg #[.int .i64 14, .int .i64 a, .int .i64 b]] w fun e w' => e = .returned (.tuple #[.int .i64 (a + 1), .int .i64 0]) ∧ Below w.heap.size w w' := by
  have HB : Hid (Below w.heap.size w (w.alloc (.cells #[.int .i64 14, .int .i64 a, .int .i64 b] 55))) := (Below.refl _ w).alloc (Nat.le_refl _) _
  have hw : -9223372036854775808 ≤ a + 1 ∧ a + 1 ≤ 9223372036854775807 := by omega
  go_enter Tryz.func73, Tryz.ntmps73
  go_wp2
  go_ret2
  exact ⟨rfl, HB.out⟩
set_option maxRecDepth 100000 in
theorem needs09_15 (a b : Int) (w : World) : Calls Tryz.prog 73 #[.agg #[.int .i64 15, .int .i64 a, .int .i64 b]] w fun e w' => e = .returned (.tuple #[.int .i64 1, .int .i64 0]) ∧ Below w.heap.size w w' := by
  have HB : Hid (Below w.heap.size w (w.alloc (.cells #[.int .i64 15, .int .i64 a, .int .i64 b] 55))) := (Below.refl _ w).alloc (Nat.le_refl _) _
  go_enter Tryz.func73, Tryz.ntmps73
  go_wp2
  go_ret2
  exact ⟨rfl, HB.out⟩
set_option maxRecDepth 100000 in
theorem needs09_16 (a b : Int) (w : World) : Calls Tryz.prog 73 #[.agg #[.int .i64 16, .int .i64 a, .int .i64 b]] w fun e w' => e = .returned (.tuple #[.int .i64 1, .int .i64 0]) ∧ Below w.heap.size w w' := by
  have HB : Hid (Below w.heap.size w (w.alloc (.cells #[.int .i64 16, .int .i64 a, .int .i64 b] 55))) := (Below.refl _ w).alloc (Nat.le_refl _) _
  go_enter Tryz.func73, Tryz.ntmps73
  go_wp2
  go_ret2
  exact ⟨rfl, HB.out⟩
theorem needs09_any {p : Cd.Prog} {c : Cd.Code} {j : Nat} (x : Cd.Ins) (h : Cd.OkIns p c j x) (ha : (Cd.op x.o).pa = true → 0 ≤ x.a ∧ x.a ≤ 32) (hb : (Cd.op x.o).pb = true → 0 ≤ x.b ∧ x.b ≤ 64) (w : World) : Calls Tryz.prog 73 #[.agg #[.int .i64 x.o, .int .i64 x.a, .int .i64 x.b]] w fun e w' => e = .returned (.tuple #[.int .i64 (Cd.need x), .int .i64 (Cd.op x.o).leaves]) ∧ Below w.heap.size w w' := by
  obtain ⟨o, a, b⟩ := x
  have h0 := h.some
  simp only at h0 ha hb
  rcases Cd.op_cases o with h1 | rfl | rfl | rfl | rfl | rfl | rfl | rfl | rfl | rfl | rfl | rfl | rfl | rfl | rfl | rfl | rfl
  · omega
  · have e1 : Cd.need ⟨1, a, b⟩ = 0 := by simp [Cd.need, Cd.op, Cd.opT]
    have e2 : (Cd.op 1).leaves = 1 := rfl
    rw [e1]
    show Calls _ _ _ _ fun e w' => e = .returned (.tuple #[_, .int .i64 (Cd.op 1).leaves]) ∧ _
    rw [e2]
    exact needs09_1 a b w
  · have e1 : Cd.need ⟨2, a, b⟩ = 0 := by simp [Cd.need, Cd.op, Cd.opT]
    have e2 : (Cd.op 2).leaves = 1 := rfl
    rw [e1]
    show Calls _ _ _ _ fun e w' => e = .returned (.tuple #[_, .int .i64 (Cd.op 2).leaves]) ∧ _
    rw [e2]
    exact needs09_2 a b w
  · have e1 : Cd.need ⟨3, a, b⟩ = 0 := by simp [Cd.need, Cd.op, Cd.opT]
    have e2 : (Cd.op 3).leaves = 1 := rfl
    rw [e1]
    show Calls _ _ _ _ fun e w' => e = .returned (.tuple #[_, .int .i64 (Cd.op 3).leaves]) ∧ _
    rw [e2]
    exact needs09_3 a b w
  · have e1 : Cd.need ⟨4, a, b⟩ = 0 := by simp [Cd.need, Cd.op, Cd.opT]
    have e2 : (Cd.op 4).leaves = 1 := rfl
    rw [e1]
    show Calls _ _ _ _ fun e w' => e = .returned (.tuple #[_, .int .i64 (Cd.op 4).leaves]) ∧ _
    rw [e2]
    exact needs09_4 a b w
  · have e1 : Cd.need ⟨5, a, b⟩ = 0 := by simp [Cd.need, Cd.op, Cd.opT]
    have e2 : (Cd.op 5).leaves = 0 := rfl
    rw [e1]
    show Calls _ _ _ _ fun e w' => e = .returned (.tuple #[_, .int .i64 (Cd.op 5).leaves]) ∧ _
    rw [e2]
    exact needs09_5 a b w
  · have e1 : Cd.need ⟨6, a, b⟩ = 1 := by simp [Cd.need, Cd.op, Cd.opT]
    have e2 : (Cd.op 6).leaves = 1 := rfl
    rw [e1]
    show Calls _ _ _ _ fun e w' => e = .returned (.tuple #[_, .int .i64 (Cd.op 6).leaves]) ∧ _
    rw [e2]
    exact needs09_6 a b w
  · have e1 : Cd.need ⟨7, a, b⟩ = 2 := by simp [Cd.need, Cd.op, Cd.opT]
    have e2 : (Cd.op 7).leaves = 1 := rfl
    rw [e1]
    show Calls _ _ _ _ fun e w' => e = .returned (.tuple #[_, .int .i64 (Cd.op 7).leaves]) ∧ _
    rw [e2]
    exact needs09_7 a b w
  · have e1 : Cd.need ⟨8, a, b⟩ = 1 := by simp [Cd.need, Cd.op, Cd.opT]
    have e2 : (Cd.op 8).leaves = 1 := rfl
    rw [e1]
    show Calls _ _ _ _ fun e w' => e = .returned (.tuple #[_, .int .i64 (Cd.op 8).leaves]) ∧ _
    rw [e2]
    exact needs09_8 a b w
  · have e1 : Cd.need ⟨9, a, b⟩ = 1 := by simp [Cd.need, Cd.op, Cd.opT]
    have e2 : (Cd.op 9).leaves = 1 := rfl
    rw [e1]
    show Calls _ _ _ _ fun e w' => e = .returned (.tuple #[_, .int .i64 (Cd.op 9).leaves]) ∧ _
    rw [e2]
    exact needs09_9 a b w
  · have e1 : Cd.need ⟨10, a, b⟩ = 0 := by simp [Cd.need, Cd.op, Cd.opT]
    have e2 : (Cd.op 10).leaves = 0 := rfl
    rw [e1]
    show Calls _ _ _ _ fun e w' => e = .returned (.tuple #[_, .int .i64 (Cd.op 10).leaves]) ∧ _
    rw [e2]
    exact needs09_10 a b w
  · have e1 : Cd.need ⟨11, a, b⟩ = 1 := by simp [Cd.need, Cd.op, Cd.opT]
    have e2 : (Cd.op 11).leaves = 0 := rfl
    rw [e1]
    show Calls _ _ _ _ fun e w' => e = .returned (.tuple #[_, .int .i64 (Cd.op 11).leaves]) ∧ _
    rw [e2]
    exact needs09_11 a b w
  · have e1 : Cd.need ⟨12, a, b⟩ = b := by simp [Cd.need, Cd.op, Cd.opT]
    have e2 : (Cd.op 12).leaves = 1 := rfl
    rw [e1]
    show Calls _ _ _ _ fun e w' => e = .returned (.tuple #[_, .int .i64 (Cd.op 12).leaves]) ∧ _
    rw [e2]
    exact needs09_12 a b (hb rfl) w
  · have e1 : Cd.need ⟨13, a, b⟩ = a + 1 := by simp [Cd.need, Cd.op, Cd.opT]; omega
    have e2 : (Cd.op 13).leaves = 1 := rfl
    rw [e1]
    show Calls _ _ _ _ fun e w' => e = .returned (.tuple #[_, .int .i64 (Cd.op 13).leaves]) ∧ _
    rw [e2]
    exact needs09_13 a b (ha rfl) w
  · have e1 : Cd.need ⟨14, a, b⟩ = a + 1 := by simp [Cd.need, Cd.op, Cd.opT]; omega
    have e2 : (Cd.op 14).leaves = 0 := rfl
    rw [e1]
    show Calls _ _ _ _ fun e w' => e = .returned (.tuple #[_, .int .i64 (Cd.op 14).leaves]) ∧ _
    rw [e2]
    exact needs09_14 a b (ha rfl) w
  · have e1 : Cd.need ⟨15, a, b⟩ = 1 := by simp [Cd.need, Cd.op, Cd.opT]
    have e2 : (Cd.op 15).leaves = 0 := rfl
    rw [e1]
    show Calls _ _ _ _ fun e w' => e = .returned (.tuple #[_, .int .i64 (Cd.op 15).leaves]) ∧ _
    rw [e2]
    exact needs09_15 a b w
  · have e1 : Cd.need ⟨16, a, b⟩ = 1 := by simp [Cd.need, Cd.op, Cd.opT]
    have e2 : (Cd.op 16).leaves = 0 := rfl
    rw [e1]
    show Calls _ _ _ _ fun e w' => e = .returned (.tuple #[_, .int .i64 (Cd.op 16).leaves]) ∧ _
    rw [e2]
    exact needs09_16 a b w
end Go.Proofs.YtlckjphnbfahgaaGreatDoor
