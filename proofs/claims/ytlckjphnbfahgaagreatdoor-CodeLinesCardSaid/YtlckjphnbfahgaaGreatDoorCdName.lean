/-
  An instruction's name, as the program and as the document tell it; whether its A counts; a number's digits.
-/
import Derived.Test.YtlckjphnbfahgaaGreatDoorCdOps
import Derived.Lib.ItoaMem
import Derived.Lib.ItoaLen
import Derived.Laws.Concat
import Derived.Laws.BytesArg
import Derived.Deep.DeepCutAuto
namespace Go.Proofs.YtlckjphnbfahgaaGreatDoor
open Go.RowKit
attribute [local go_sem] Oper.semAt_some
set_option maxRecDepth 100000 in
set_option maxHeartbeats 4000000 in
theorem cName_any (n : Int) (w : World) : Calls Tryz.prog 7 #[.int .i64 n] w fun e w' => e = .returned (.string (Cd.nm n)) ∧ Below w.heap.size w w' := by
  have h := ops_any n w
  obtain ⟨b, hb⟩ : ∃ b, (Cd.opT n).isSome = b := ⟨_, rfl⟩
  obtain ⟨s, hs⟩ : ∃ s, Cd.nm n = s := ⟨_, rfl⟩
  obtain ⟨o, ho⟩ : ∃ o, Cd.op n = o := ⟨_, rfl⟩
  have hv : Cd.opV n = .agg #[.string s, .int .i64 (o.a : Int), .int .i64 o.needs, .int .i64 o.leaves, .bool o.pa, .bool o.pb, .bool o.en] := by unfold Cd.opV; rw [hs, ho]
  rw [hb, hv] at h
  rw [hs]
  clear hb hs ho hv
  go_enter Tryz.func7, Tryz.ntmps7
  go_wp2_with (go_at_call 22; refine h.mono ?_; clear h; rintro e w1 ⟨rfl, hb1⟩; have HB1 := Lib.hid hb1; clear hb1)
  go_ret
  exact ⟨rfl, HB1.out.alloc HB1.out.size _⟩
set_option maxRecDepth 100000 in
theorem rName_1 (w : World) : Calls Tryz.prog 8 #[.int .i64 1] w fun e w' => e = .returned (.string (Cd.nm 1)) ∧ Below w.heap.size w w' := by
  go_enter Tryz.func8, Tryz.ntmps8
  go_wp2
  go_ret
  exact ⟨rfl, (Below.refl _ _).alloc (Nat.le_refl _) _⟩
set_option maxRecDepth 100000 in
theorem rName_2 (w : World) : Calls Tryz.prog 8 #[.int .i64 2] w fun e w' => e = .returned (.string (Cd.nm 2)) ∧ Below w.heap.size w w' := by
  go_enter Tryz.func8, Tryz.ntmps8
  go_wp2
  go_ret
  exact ⟨rfl, (Below.refl _ _).alloc (Nat.le_refl _) _⟩
set_option maxRecDepth 100000 in
theorem rName_3 (w : World) : Calls Tryz.prog 8 #[.int .i64 3] w fun e w' => e = .returned (.string (Cd.nm 3)) ∧ Below w.heap.size w w' := by
  go_enter Tryz.func8, Tryz.ntmps8
  go_wp2
  go_ret
  exact ⟨rfl, (Below.refl _ _).alloc (Nat.le_refl _) _⟩
set_option maxRecDepth 100000 in
theorem rName_4 (w : World) : Calls Tryz.prog 8 #[.int .i64 4] w fun e w' => e = .returned (.string (Cd.nm 4)) ∧ Below w.heap.size w w' := by
  go_enter Tryz.func8, Tryz.ntmps8
  go_wp2
  go_ret
  exact ⟨rfl, (Below.refl _ _).alloc (Nat.le_refl _) _⟩
set_option maxRecDepth 100000 in
theorem rName_5 (w : World) : Calls Tryz.prog 8 #[.int .i64 5] w fun e w' => e = .returned (.string (Cd.nm 5)) ∧ Below w.heap.size w w' := by
  go_enter Tryz.func8, Tryz.ntmps8
  go_wp2
  go_ret
  exact ⟨rfl, (Below.refl _ _).alloc (Nat.le_refl _) _⟩
set_option maxRecDepth 100000 in
theorem rName_6 (w : World) : Calls Tryz.prog 8 #[.int .i64 6] w fun e w' => e = .returned (.string (Cd.nm 6)) ∧ Below w.heap.size w w' := by
  go_enter Tryz.func8, Tryz.ntmps8
  go_wp2
  go_ret
  exact ⟨rfl, (Below.refl _ _).alloc (Nat.le_refl _) _⟩
set_option maxRecDepth 100000 in
theorem rName_7 (w : World) : Calls Tryz.prog 8 #[.int .i64 7] w fun e w' => e = .returned (.string (Cd.nm 7)) ∧ Below w.heap.size w w' := by
  go_enter Tryz.func8, Tryz.ntmps8
  go_wp2
  go_ret
  exact ⟨rfl, (Below.refl _ _).alloc (Nat.le_refl _) _⟩
set_option maxRecDepth 100000 in
theorem rName_8 (w : World) : Calls Tryz.prog 8 #[.int .i64 8] w fun e w' => e = .returned (.string (Cd.nm 8)) ∧ Below w.heap.size w w' := by
  go_enter Tryz.func8, Tryz.ntmps8
  go_wp2
  go_ret
  exact ⟨rfl, (Below.refl _ _).alloc (Nat.le_refl _) _⟩
set_option maxRecDepth 100000 in
theorem rName_9 (w : World) : Calls Tryz.prog 8 #[.int .i64 9] w fun e w' => e = .returned (.string (Cd.nm 9)) ∧ Below w.heap.size w w' := by
  go_enter Tryz.func8, Tryz.ntmps8
  go_wp2
  go_ret
  exact ⟨rfl, (Below.refl _ _).alloc (Nat.le_refl _) _⟩
set_option maxRecDepth 100000 in
theorem rName_10 (w : World) : Calls Tryz.prog 8 #[.int .i64 10] w fun e w' => e = .returned (.string (Cd.nm 10)) ∧ Below w.heap.size w w' := by
  go_enter Tryz.func8, Tryz.ntmps8
  go_wp2
  go_ret
  exact ⟨rfl, (Below.refl _ _).alloc (Nat.le_refl _) _⟩
set_option maxRecDepth 100000 in
theorem rName_11 (w : World) : Calls Tryz.prog 8 #[.int .i64 11] w fun e w' => e = .returned (.string (Cd.nm 11)) ∧ Below w.heap.size w w' := by
  go_enter Tryz.func8, Tryz.ntmps8
  go_wp2
  go_ret
  exact ⟨rfl, (Below.refl _ _).alloc (Nat.le_refl _) _⟩
set_option maxRecDepth 100000 in
theorem rName_12 (w : World) : Calls Tryz.prog 8 #[.int .i64 12] w fun e w' => e = .returned (.string (Cd.nm 12)) ∧ Below w.heap.size w w' := by
  go_enter Tryz.func8, Tryz.ntmps8
  go_wp2
  go_ret
  exact ⟨rfl, (Below.refl _ _).alloc (Nat.le_refl _) _⟩
set_option maxRecDepth 100000 in
theorem rName_13 (w : World) : Calls Tryz.prog 8 #[.int .i64 13] w fun e w' => e = .returned (.string (Cd.nm 13)) ∧ Below w.heap.size w w' := by
  go_enter Tryz.func8, Tryz.ntmps8
  go_wp2
  go_ret
  exact ⟨rfl, (Below.refl _ _).alloc (Nat.le_refl _) _⟩
set_option maxRecDepth 100000 in
theorem rName_14 (w : World) : Calls Tryz.prog 8 #[.int .i64 14] w fun e w' => e = .returned (.string (Cd.nm 14)) ∧ Below w.heap.size w w' := by
  go_enter Tryz.func8, Tryz.ntmps8
  go_wp2
  go_ret
  exact ⟨rfl, (Below.refl _ _).alloc (Nat.le_refl _) _⟩
set_option maxRecDepth 100000 in
theorem rName_15 (w : World) : Calls Tryz.prog 8 #[.int .i64 15] w fun e w' => e = .returned (.string (Cd.nm 15)) ∧ Below w.heap.size w w' := by
  go_enter Tryz.func8, Tryz.ntmps8
  go_wp2
  go_ret
  exact ⟨rfl, (Below.refl _ _).alloc (Nat.le_refl _) _⟩
set_option maxRecDepth 100000 in
theorem rName_16 (w : World) : Calls Tryz.prog 8 #[.int .i64 16] w fun e w' => e = .returned (.string (Cd.nm 16)) ∧ Below w.heap.size w w' := by
  go_enter Tryz.func8, Tryz.ntmps8
  go_wp2
  go_ret
  exact ⟨rfl, (Below.refl _ _).alloc (Nat.le_refl _) _⟩
set_option maxRecDepth 100000 in
theorem rName_no (n : Int) (hn : n < 1 ∨ 16 < n) (w : World) : Calls Tryz.prog 8 #[.int .i64 n] w fun e w' => e = .returned (.string (Cd.nm n)) ∧ Below w.heap.size w w' := by
  have e : Cd.nm n = ⟨#[]⟩ := by unfold Cd.nm; rw [if_neg (by omega)]
  rw [e]
  clear e
  by_cases h1 : n < 1
  · have h1' : decide (n < 1) = true := decide_eq_true h1
    go_enter Tryz.func8, Tryz.ntmps8
    go_wp2
    go_ret
    exact ⟨rfl, (Below.refl _ _).alloc (Nat.le_refl _) _⟩
  · have h2 : 17 ≤ n := by omega
    have h1' : decide (n < 1) = false := decide_eq_false h1
    clear h1 hn
    go_enter Tryz.func8, Tryz.ntmps8
    go_wp2
    go_ret
    exact ⟨rfl, (Below.refl _ _).alloc (Nat.le_refl _) _⟩
theorem rName_any (n : Int) (w : World) : Calls Tryz.prog 8 #[.int .i64 n] w fun e w' => e = .returned (.string (Cd.nm n)) ∧ Below w.heap.size w w' := by
  by_cases h : n < 1 ∨ 16 < n
  · exact rName_no n h w
  · obtain ⟨k, rfl⟩ : ∃ k : Nat, n = (k : Int) := ⟨n.toNat, by omega⟩
    rcases Cd.k_cases (k := k) (by omega) (by omega) with rfl | rfl | rfl | rfl | rfl | rfl | rfl | rfl | rfl | rfl | rfl | rfl | rfl | rfl | rfl | rfl
    · exact rName_1 w
    · exact rName_2 w
    · exact rName_3 w
    · exact rName_4 w
    · exact rName_5 w
    · exact rName_6 w
    · exact rName_7 w
    · exact rName_8 w
    · exact rName_9 w
    · exact rName_10 w
    · exact rName_11 w
    · exact rName_12 w
    · exact rName_13 w
    · exact rName_14 w
    · exact rName_15 w
    · exact rName_16 w
set_option maxRecDepth 100000 in
theorem takes_1 (w : World) : Calls Tryz.prog 21 #[.int .i64 1] w fun e w' => e = .returned (.bool (decide ((Cd.op 1).a ≠ 0))) ∧ w = w' := by
  go_enter Tryz.func21, Tryz.ntmps21
  go_wp2
  go_ret
  exact ⟨rfl, rfl⟩
set_option maxRecDepth 100000 in
theorem takes_2 (w : World) : Calls Tryz.prog 21 #[.int .i64 2] w fun e w' => e = .returned (.bool (decide ((Cd.op 2).a ≠ 0))) ∧ w = w' := by
  go_enter Tryz.func21, Tryz.ntmps21
  go_wp2
  go_ret
  exact ⟨rfl, rfl⟩
set_option maxRecDepth 100000 in
theorem takes_3 (w : World) : Calls Tryz.prog 21 #[.int .i64 3] w fun e w' => e = .returned (.bool (decide ((Cd.op 3).a ≠ 0))) ∧ w = w' := by
  go_enter Tryz.func21, Tryz.ntmps21
  go_wp2
  go_ret
  exact ⟨rfl, rfl⟩
set_option maxRecDepth 100000 in
theorem takes_4 (w : World) : Calls Tryz.prog 21 #[.int .i64 4] w fun e w' => e = .returned (.bool (decide ((Cd.op 4).a ≠ 0))) ∧ w = w' := by
  go_enter Tryz.func21, Tryz.ntmps21
  go_wp2
  go_ret
  exact ⟨rfl, rfl⟩
set_option maxRecDepth 100000 in
theorem takes_5 (w : World) : Calls Tryz.prog 21 #[.int .i64 5] w fun e w' => e = .returned (.bool (decide ((Cd.op 5).a ≠ 0))) ∧ w = w' := by
  go_enter Tryz.func21, Tryz.ntmps21
  go_wp2
  go_ret
  exact ⟨rfl, rfl⟩
set_option maxRecDepth 100000 in
theorem takes_6 (w : World) : Calls Tryz.prog 21 #[.int .i64 6] w fun e w' => e = .returned (.bool (decide ((Cd.op 6).a ≠ 0))) ∧ w = w' := by
  go_enter Tryz.func21, Tryz.ntmps21
  go_wp2
  go_ret
  exact ⟨rfl, rfl⟩
set_option maxRecDepth 100000 in
theorem takes_7 (w : World) : Calls Tryz.prog 21 #[.int .i64 7] w fun e w' => e = .returned (.bool (decide ((Cd.op 7).a ≠ 0))) ∧ w = w' := by
  go_enter Tryz.func21, Tryz.ntmps21
  go_wp2
  go_ret
  exact ⟨rfl, rfl⟩
set_option maxRecDepth 100000 in
theorem takes_8 (w : World) : Calls Tryz.prog 21 #[.int .i64 8] w fun e w' => e = .returned (.bool (decide ((Cd.op 8).a ≠ 0))) ∧ w = w' := by
  go_enter Tryz.func21, Tryz.ntmps21
  go_wp2
  go_ret
  exact ⟨rfl, rfl⟩
set_option maxRecDepth 100000 in
theorem takes_9 (w : World) : Calls Tryz.prog 21 #[.int .i64 9] w fun e w' => e = .returned (.bool (decide ((Cd.op 9).a ≠ 0))) ∧ w = w' := by
  go_enter Tryz.func21, Tryz.ntmps21
  go_wp2
  go_ret
  exact ⟨rfl, rfl⟩
set_option maxRecDepth 100000 in
theorem takes_10 (w : World) : Calls Tryz.prog 21 #[.int .i64 10] w fun e w' => e = .returned (.bool (decide ((Cd.op 10).a ≠ 0))) ∧ w = w' := by
  go_enter Tryz.func21, Tryz.ntmps21
  go_wp2
  go_ret
  exact ⟨rfl, rfl⟩
set_option maxRecDepth 100000 in
theorem takes_11 (w : World) : Calls Tryz.prog 21 #[.int .i64 11] w fun e w' => e = .returned (.bool (decide ((Cd.op 11).a ≠ 0))) ∧ w = w' := by
  go_enter Tryz.func21, Tryz.ntmps21
  go_wp2
  go_ret
  exact ⟨rfl, rfl⟩
set_option maxRecDepth 100000 in
theorem takes_12 (w : World) : Calls Tryz.prog 21 #[.int .i64 12] w fun e w' => e = .returned (.bool (decide ((Cd.op 12).a ≠ 0))) ∧ w = w' := by
  go_enter Tryz.func21, Tryz.ntmps21
  go_wp2
  go_ret
  exact ⟨rfl, rfl⟩
set_option maxRecDepth 100000 in
theorem takes_13 (w : World) : Calls Tryz.prog 21 #[.int .i64 13] w fun e w' => e = .returned (.bool (decide ((Cd.op 13).a ≠ 0))) ∧ w = w' := by
  go_enter Tryz.func21, Tryz.ntmps21
  go_wp2
  go_ret
  exact ⟨rfl, rfl⟩
set_option maxRecDepth 100000 in
theorem takes_14 (w : World) : Calls Tryz.prog 21 #[.int .i64 14] w fun e w' => e = .returned (.bool (decide ((Cd.op 14).a ≠ 0))) ∧ w = w' := by
  go_enter Tryz.func21, Tryz.ntmps21
  go_wp2
  go_ret
  exact ⟨rfl, rfl⟩
set_option maxRecDepth 100000 in
theorem takes_15 (w : World) : Calls Tryz.prog 21 #[.int .i64 15] w fun e w' => e = .returned (.bool (decide ((Cd.op 15).a ≠ 0))) ∧ w = w' := by
  go_enter Tryz.func21, Tryz.ntmps21
  go_wp2
  go_ret
  exact ⟨rfl, rfl⟩
set_option maxRecDepth 100000 in
theorem takes_16 (w : World) : Calls Tryz.prog 21 #[.int .i64 16] w fun e w' => e = .returned (.bool (decide ((Cd.op 16).a ≠ 0))) ∧ w = w' := by
  go_enter Tryz.func21, Tryz.ntmps21
  go_wp2
  go_ret
  exact ⟨rfl, rfl⟩
theorem takes_any (n : Int) (h1 : 1 ≤ n) (h2 : n ≤ 16) (w : World) : Calls Tryz.prog 21 #[.int .i64 n] w fun e w' => e = .returned (.bool (decide ((Cd.op n).a ≠ 0))) ∧ w = w' := by
  obtain ⟨k, rfl⟩ : ∃ k : Nat, n = (k : Int) := ⟨n.toNat, by omega⟩
  rcases Cd.k_cases (k := k) (by omega) (by omega) with rfl | rfl | rfl | rfl | rfl | rfl | rfl | rfl | rfl | rfl | rfl | rfl | rfl | rfl | rfl | rfl
  · exact takes_1 w
  · exact takes_2 w
  · exact takes_3 w
  · exact takes_4 w
  · exact takes_5 w
  · exact takes_6 w
  · exact takes_7 w
  · exact takes_8 w
  · exact takes_9 w
  · exact takes_10 w
  · exact takes_11 w
  · exact takes_12 w
  · exact takes_13 w
  · exact takes_14 w
  · exact takes_15 w
  · exact takes_16 w
theorem Cd.decD_lo (u : Nat) (h : u < 10) : (⟨#[UInt8.ofNat (48 + u)]⟩ : ByteArray) = ⟨(Lib.decDigits u).toArray⟩ := by rw [Lib.decDigits_one h]
theorem Cd.decD_hi (u : Nat) (h : ¬ u < 10) : Lib.decDigits u = Lib.decDigits (u / 10) ++ [UInt8.ofNat (48 + u % 10)] := by rw [Lib.decDigits, dif_neg h]
theorem Cd.decD_len (u : Nat) (h : u ≤ 9223372036854775807) : (Lib.decDigits u).length ≤ 21 := by
  have := Lib.itoa_length_le (u : Int) (by omega) (by omega)
  rwa [Lib.itoa_nonneg] at this
theorem Cd.cat {x y : List UInt8} (hx : x.length ≤ 1000000) (hy : y.length ≤ 1000000) (w : World) : (Op.stringOp .add ⟨x.toArray⟩ ⟨y.toArray⟩).run Tryz.prog w = .ok (.string ⟨(x ++ y).toArray⟩) w :=
  run_string_add_lists w x y (by omega) (by omega)
def Cd.dU (n : Nat) : UInt8 := UInt8.ofNat (48 + n % 10)
theorem Cd.digU_int (n : Nat) : UInt8.ofNat ((48 : Int) + (n : Int) % 10).toNat = Cd.dU n := by
  unfold Cd.dU
  congr 1
theorem Cd.conv1 (n : Nat) (w : World) :
    (convert 37 9 (.slice (some ⟨w.heap.size, 0, none⟩) 1 1)).run Tryz.prog (w.alloc (.cells #[.int .u8 (48 + (n : Int) % 10)] 5)) = .ok (.string ⟨#[Cd.dU n]⟩) (w.alloc (.cells #[.int .u8 (48 + (n : Int) % 10)] 5)) := by
  have h := run_convert_bytes_arg (P := Tryz.prog) (w.alloc (.cells #[.int .u8 (48 + (n : Int) % 10)] 5)) 37 5 Tryz.underlying37 Tryz.underlying5 w.heap.size 0 1 1 [48 + (n : Int) % 10] rfl (fun i hi => by
    obtain rfl : i = 0 := by omega
    simp [World.cell?_alloc_new]) 9 Tryz.underlying9
  rw [h]
  simp only [strOfNums, List.map_cons, List.map_nil, Cd.digU_int]
set_option maxRecDepth 100000 in
set_option maxHeartbeats 4000000 in
theorem digits09_any (u : Nat) : ∀ (_ : u ≤ 9223372036854775807) (w : World), Calls Tryz.prog 20 #[.int .i64 (u : Int)] w fun e w' => e = .returned (.string ⟨(Lib.decDigits u).toArray⟩) ∧ Below w.heap.size w w' := by
  induction u using Nat.strongRecOn with
  | _ u ih =>
    intro hu w
    have hc := Cd.conv1 u w
    by_cases h10 : u < 10
    · have e1 : Hid (Lib.decDigits u = [Cd.dU u]) := by show _ = _; unfold Cd.dU; rw [Lib.decDigits_one h10, Nat.mod_eq_of_lt h10]
      clear ih
      go_enter Tryz.func20, Tryz.ntmps20
      go_wp2
      go_ret
      exact ⟨by rw [e1.out]; rfl, (Below.refl _ _).alloc (Nat.le_refl _) _⟩
    · have e1 : Hid (Lib.decDigits u = Lib.decDigits (u / 10) ++ [Cd.dU u]) := Cd.decD_hi u h10
      have IH := Lib.hid (ih (u / 10) (by omega) (by omega))
      clear ih
      go_enter Tryz.func20, Tryz.ntmps20
      go_wp2_with fail
      rw [show ((u : Int) / 10) = ((u / 10 : Nat) : Int) from by omega]
      refine (IH.out _).mono ?_; rintro e w1 ⟨rfl, hb1⟩
      have hcat := Cd.cat (x := Lib.decDigits (u / 10)) (y := [Cd.dU u]) (by have := Cd.decD_len (u / 10) (by omega); omega) (by simp) w1
      go_wp2
      go_ret
      refine ⟨?_, ((Below.refl _ _).alloc (Nat.le_refl _) _).trans (hb1.mono (by simp))⟩
      rw [e1.out]
      rfl
end Go.Proofs.YtlckjphnbfahgaaGreatDoor
