/-
 The walk of fix.Parse: the fixnum of a text.
-/
import Derived.Test.YtcopdfihaheplaaFixText
import Derived.WalkSpells
import Derived.Lib.Strings
namespace Go.Proofs.Ytcopdfihaheplaa
open Go.RowKit
namespace Fx
def isD (c : UInt8) : Bool := decide (48 ≤ c.toNat) && decide (c.toNat ≤ 57)
def val (l : List UInt8) : Nat := l.foldl (fun v c => 10 * v + (c.toNat - 48)) 0
def dig (s : List UInt8) : List UInt8 := if s.head? = some 45 then s.tail else s
def neg (s : List UInt8) : Bool := s.head? == some 45
def form (s : List UInt8) : Bool := !(dig s).isEmpty && !((dig s).head? == some 48 && decide (1 < s.length)) && (dig s).all isD
def parse (s : List UInt8) : Int × Int :=
 if form s then (if 19 < (dig s).length then (0, 10) else signedV 0 (val (dig s)) (neg s)) else (0, 5)
theorem val_snoc (l : List UInt8) (c : UInt8) : val (l ++ [c]) = 10 * val l + (c.toNat - 48) := by simp [val]
theorem take_snoc (s : ByteArray) (k : Nat) (h : k < s.size) : s.data.toList.take (k + 1) = s.data.toList.take k ++ [s[k]] := by
 rw [List.take_succ_eq_append_getElem (by simpa using h)]; rfl
theorem val_take (s : ByteArray) (k : Nat) (h : k < s.size) : val (s.data.toList.take (k + 1)) = 10 * val (s.data.toList.take k) + (s[k].toNat - 48) := by
 rw [take_snoc s k h, val_snoc]
theorem val_take_lt (s : ByteArray) : ∀ (k : Nat), k ≤ s.size → (∀ j (h : j < s.size), j < k → isD s[j] = true) → val (s.data.toList.take k) < 10 ^ k
 | 0, _, _ => by simp [val]
 | k + 1, hk, h => by
  have ih := val_take_lt s k (by omega) (fun j hj hjk => h j hj (by omega))
  have hd := h k (by omega) (by omega)
  have hc : s[k].toNat ≤ 57 := by simp [isD] at hd; omega
  rw [val_take s k (by omega), Nat.pow_succ]
  omega
theorem all_of (s : ByteArray) (h : ∀ j (h : j < s.size), isD s[j] = true) : s.data.toList.all isD = true := by
 rw [List.all_eq_true]
 intro x hx
 obtain ⟨j, hj, rfl⟩ := List.getElem_of_mem hx
 exact h j (by simpa using hj)
theorem not_all (s : ByteArray) (j : Nat) (hj : j < s.size) (h : isD s[j] = false) : s.data.toList.all isD = false := by
 rw [List.all_eq_false]
 exact ⟨s[j], by
  have : s[j] = s.data.toList[j]'(by simpa using hj) := rfl
  rw [this]; exact List.getElem_mem _, by simp [h]⟩
end Fx
namespace Fx
def pbody (d : ByteArray) (minus : Bool) : Int × Int := if d.data.toList.all isD then (if 19 < d.size then (0, 10) else signedV 0 (val d.data.toList) minus) else (0, 5)
end Fx
set_option maxHeartbeats 1000000 in
theorem Parse_plain (s : ByteArray) (w : World) (hs : s.size ≤ 9223372036854775807) (h0 : 0 < s.size) (hm : ((s[0].toNat : Int) == 45) = false) (hz : ((s[0].toNat : Int) == 48) = false) :
  Calls Try.prog 91 #[.string s] w fun e w' => e = .returned (Fx.R (Fx.pbody s false)) ∧ w = w' := by
 have hne : ((s.size : Int) == 0) = false := beq_eq_false_iff_ne.2 (by omega)
 have hne' : 0 < (s.size : Int) := by omega
 by_cases ho : 19 < s.size
 ·have hov : Hid (19 < s.size) := ho
  have hob : decide (19 < (s.size : Int)) = true := by simp; omega
  go_enter Try.func91, Try.ntmps91
  go_wp2
  go_loop [6, 8, 9, 40] (fun v _ _ i => ∃ k n : Nat, k ≤ s.size ∧ i = .int .i64 k ∧ v = .int .u64 0 ∧ n < 1000000000000000000 * 10 ∧ Hid (True) ∧ Hid (∀ j (h : j < s.size), j < k → Fx.isD s[j] = true)) (fun _ _ _ i => s.size - (intOf i).toNat)
  case atStart => exact ⟨0, 0, Nat.zero_le _, rfl, rfl, by omega, trivial, fun j _ hj => absurd hj (by omega)⟩
  case round =>
   obtain ⟨k, n, hk, rfl, rfl, hn, HV, HA⟩ := hrel
   by_cases hlt : k < s.size
   ·cases hD : Fx.isD s[k]
    ·have e1 : Hid (Fx.pbody s false = (0, 5)) := by
      show Fx.pbody s false = (0, 5)
      unfold Fx.pbody; rw [Fx.not_all s k hlt hD]; rfl
     have hc : s[k].toNat < 48 ∨ 57 < s[k].toNat := by simp [Fx.isD] at hD; omega
     clear hD
     rcases hc with hc | hc
     ·have hc' : ((s[k].toNat : Nat) : Int) < 48 := by omega
      clear hc
      go_wp2
      go_ret2
      exact ⟨Fx.R_mk e1.out, rfl⟩
     ·have hc' : 57 < ((s[k].toNat : Nat) : Int) := by omega
      clear hc
      go_wp2
      go_ret2
      exact ⟨Fx.R_mk e1.out, rfl⟩
    ·have hc : 48 ≤ s[k].toNat ∧ s[k].toNat ≤ 57 := by simpa [Fx.isD] using hD
     have hc1 : 48 ≤ ((s[k].toNat : Nat) : Int) := by omega
     have hc2 : ((s[k].toNat : Nat) : Int) ≤ 57 := by omega
     have HA2 : Hid (∀ j (h : j < s.size), j < k + 1 → Fx.isD s[j] = true) := fun j h hj => by
      by_cases hjk : j = k
      ·subst hjk; exact hD
      ·exact HA.out j h (by omega)
     clear hD hc
     go_wp2
     go_round
     case rel => exact ⟨k + 1, n, by omega, by go_num, rfl, hn, trivial, HA2⟩
     case measure => simp [intOf]; omega
   ·have HD : Hid (s.data.toList.all Fx.isD = true) := Fx.all_of s (fun j h => HA.out j h (by omega))
    have e1 : Hid (Fx.pbody s false = (0, 10)) := by
     show Fx.pbody s false = (0, 10)
     unfold Fx.pbody; rw [if_pos HD.out, if_pos hov.out]
    go_wp2
    go_ret2
    exact ⟨Fx.R_mk e1.out, rfl⟩
 
 ·have hov : s.size ≤ 19 := by omega
  have hob : decide (19 < (s.size : Int)) = false := by simp; omega
  go_enter Try.func91, Try.ntmps91
  go_wp2
  go_loop [6, 8, 9, 40] (fun v _ _ i => ∃ k n : Nat, k ≤ s.size ∧ i = .int .i64 k ∧ v = .int .u64 n ∧ n < 1000000000000000000 * 10 ∧ Hid (n = Fx.val (s.data.toList.take k)) ∧ Hid (∀ j (h : j < s.size), j < k → Fx.isD s[j] = true)) (fun _ _ _ i => s.size - (intOf i).toNat)
  case atStart => exact ⟨0, 0, Nat.zero_le _, rfl, rfl, by omega, (by simp [Fx.val] : 0 = Fx.val _), fun j _ hj => absurd hj (by omega)⟩
  case round =>
   obtain ⟨k, n, hk, rfl, rfl, hn, HV, HA⟩ := hrel
   by_cases hlt : k < s.size
   ·cases hD : Fx.isD s[k]
    ·have e1 : Hid (Fx.pbody s false = (0, 5)) := by
      show Fx.pbody s false = (0, 5)
      unfold Fx.pbody; rw [Fx.not_all s k hlt hD]; rfl
     have hc : s[k].toNat < 48 ∨ 57 < s[k].toNat := by simp [Fx.isD] at hD; omega
     clear hD
     rcases hc with hc | hc
     ·have hc' : ((s[k].toNat : Nat) : Int) < 48 := by omega
      clear hc
      go_wp2
      go_ret2
      exact ⟨Fx.R_mk e1.out, rfl⟩
     ·have hc' : 57 < ((s[k].toNat : Nat) : Int) := by omega
      clear hc
      go_wp2
      go_ret2
      exact ⟨Fx.R_mk e1.out, rfl⟩
    ·have hc : 48 ≤ s[k].toNat ∧ s[k].toNat ≤ 57 := by simpa [Fx.isD] using hD
     have hc1 : 48 ≤ ((s[k].toNat : Nat) : Int) := by omega
     have hc2 : ((s[k].toNat : Nat) : Int) ≤ 57 := by omega
     have HA2 : Hid (∀ j (h : j < s.size), j < k + 1 → Fx.isD s[j] = true) := fun j h hj => by
      by_cases hjk : j = k
      ·subst hjk; exact hD
      ·exact HA.out j h (by omega)
     have hn18 : n < 1000000000000000000 := by
      rw [HV.out]
      have := Fx.val_take_lt s k hk HA.out
      have h2 : (10 : Nat) ^ k ≤ 10 ^ 18 := Nat.pow_le_pow_right (by omega) (by omega)
      have h3 : (10 : Nat) ^ 18 = 1000000000000000000 := by decide
      omega
     have HV2 : Hid (10 * n + (s[k].toNat - 48) = Fx.val (s.data.toList.take (k + 1))) := by
      show 10 * n + (s[k].toNat - 48) = Fx.val (s.data.toList.take (k + 1))
      rw [Fx.val_take s k hlt, HV.out]
     clear hD hc
     go_wp2
     go_round
     case rel => exact ⟨k + 1, 10 * n + (s[k].toNat - 48), by omega, by go_num, by go_num, by omega, HV2, HA2⟩
     case measure => simp [intOf]; omega
   ·have HD : Hid (s.data.toList.all Fx.isD = true) := Fx.all_of s (fun j h => HA.out j h (by omega))
    have e1 : Hid (Fx.pbody s false = Fx.signedV 0 n false) := by
     show Fx.pbody s false = Fx.signedV 0 n false
     unfold Fx.pbody; rw [if_pos HD.out, if_neg (by omega), HV.out, List.take_of_length_le (by simp; omega)]
    go_wp2_with (go_at_call 103; refine (signed_any _ _ _ _ (by omega) (by omega)).mono ?_; rintro e w' ⟨rfl, rfl⟩; unfold Fx.R)
    go_ret2
    exact ⟨Fx.R_mk e1.out, rfl⟩
set_option maxHeartbeats 1000000 in
theorem Parse_zero (s : ByteArray) (w : World) (hs : s.size ≤ 9223372036854775807) (h0 : s.size = 1) (h00 : 0 < s.size) (hz : ((s[0].toNat : Int) == 48) = true) :
  Calls Try.prog 91 #[.string s] w fun e w' => e = .returned (Fx.R (Fx.pbody s false)) ∧ w = w' := by
 have hm : ((s[0].toNat : Int) == 45) = false := by
  have : (s[0].toNat : Int) = 48 := by simpa using hz
  rw [this]; decide
 have h0a : s.size ≤ 1 := by omega
 clear h0
 have hne : ((s.size : Int) == 0) = false := beq_eq_false_iff_ne.2 (by omega)
 have hne' : 0 < (s.size : Int) := by omega
 
 ·have hov : s.size ≤ 19 := by omega
  have hob : decide (19 < (s.size : Int)) = false := by simp; omega
  go_enter Try.func91, Try.ntmps91
  go_wp2
  go_loop [6, 8, 9, 40] (fun v _ _ i => ∃ k n : Nat, k ≤ s.size ∧ i = .int .i64 k ∧ v = .int .u64 n ∧ n < 1000000000000000000 * 10 ∧ Hid (n = Fx.val (s.data.toList.take k)) ∧ Hid (∀ j (h : j < s.size), j < k → Fx.isD s[j] = true)) (fun _ _ _ i => s.size - (intOf i).toNat)
  case atStart => exact ⟨0, 0, Nat.zero_le _, rfl, rfl, by omega, (by simp [Fx.val] : 0 = Fx.val _), fun j _ hj => absurd hj (by omega)⟩
  case round =>
   obtain ⟨k, n, hk, rfl, rfl, hn, HV, HA⟩ := hrel
   by_cases hlt : k < s.size
   ·cases hD : Fx.isD s[k]
    ·have e1 : Hid (Fx.pbody s false = (0, 5)) := by
      show Fx.pbody s false = (0, 5)
      unfold Fx.pbody; rw [Fx.not_all s k hlt hD]; rfl
     have hc : s[k].toNat < 48 ∨ 57 < s[k].toNat := by simp [Fx.isD] at hD; omega
     clear hD
     rcases hc with hc | hc
     ·have hc' : ((s[k].toNat : Nat) : Int) < 48 := by omega
      clear hc
      go_wp2
      go_ret2
      exact ⟨Fx.R_mk e1.out, rfl⟩
     ·have hc' : 57 < ((s[k].toNat : Nat) : Int) := by omega
      clear hc
      go_wp2
      go_ret2
      exact ⟨Fx.R_mk e1.out, rfl⟩
    ·have hc : 48 ≤ s[k].toNat ∧ s[k].toNat ≤ 57 := by simpa [Fx.isD] using hD
     have hc1 : 48 ≤ ((s[k].toNat : Nat) : Int) := by omega
     have hc2 : ((s[k].toNat : Nat) : Int) ≤ 57 := by omega
     have HA2 : Hid (∀ j (h : j < s.size), j < k + 1 → Fx.isD s[j] = true) := fun j h hj => by
      by_cases hjk : j = k
      ·subst hjk; exact hD
      ·exact HA.out j h (by omega)
     have hn18 : n < 1000000000000000000 := by
      rw [HV.out]
      have := Fx.val_take_lt s k hk HA.out
      have h2 : (10 : Nat) ^ k ≤ 10 ^ 18 := Nat.pow_le_pow_right (by omega) (by omega)
      have h3 : (10 : Nat) ^ 18 = 1000000000000000000 := by decide
      omega
     have HV2 : Hid (10 * n + (s[k].toNat - 48) = Fx.val (s.data.toList.take (k + 1))) := by
      show 10 * n + (s[k].toNat - 48) = Fx.val (s.data.toList.take (k + 1))
      rw [Fx.val_take s k hlt, HV.out]
     clear hD hc
     go_wp2
     go_round
     case rel => exact ⟨k + 1, 10 * n + (s[k].toNat - 48), by omega, by go_num, by go_num, by omega, HV2, HA2⟩
     case measure => simp [intOf]; omega
   ·have HD : Hid (s.data.toList.all Fx.isD = true) := Fx.all_of s (fun j h => HA.out j h (by omega))
    have e1 : Hid (Fx.pbody s false = Fx.signedV 0 n false) := by
     show Fx.pbody s false = Fx.signedV 0 n false
     unfold Fx.pbody; rw [if_pos HD.out, if_neg (by omega), HV.out, List.take_of_length_le (by simp; omega)]
    go_wp2_with (go_at_call 103; refine (signed_any _ _ _ _ (by omega) (by omega)).mono ?_; rintro e w' ⟨rfl, rfl⟩; unfold Fx.R)
    go_ret2
    exact ⟨Fx.R_mk e1.out, rfl⟩
set_option maxHeartbeats 1000000 in
theorem Parse_minus (s : ByteArray) (d : ByteArray) (w : World) (hs : s.size ≤ 9223372036854775807) (h0 : 0 < s.size) (hm : ((s[0].toNat : Int) == 45) = true) (hd : s.extract 1 s.size = d) (h1 : 0 < d.size) (hl : d.size + 1 ≤ s.size) (hz : ((d[0].toNat : Int) == 48) = false) :
  Calls Try.prog 91 #[.string s] w fun e w' => e = .returned (Fx.R (Fx.pbody d true)) ∧ w = w' := by
 have hne : ((d.size : Int) == 0) = false := beq_eq_false_iff_ne.2 (by omega)
 have hne' : 0 < (d.size : Int) := by omega
 have h0' : 0 < (s.size : Int) := by omega
 have h0' : 1 < (s.size : Int) := by omega
 by_cases ho : 19 < d.size
 ·have hov : Hid (19 < d.size) := ho
  have hob : decide (19 < (d.size : Int)) = true := by simp; omega
  go_enter Try.func91, Try.ntmps91
  go_wp2
  go_loop [6, 8, 9, 40] (fun v _ _ i => ∃ k n : Nat, k ≤ d.size ∧ i = .int .i64 k ∧ v = .int .u64 0 ∧ n < 1000000000000000000 * 10 ∧ Hid (True) ∧ Hid (∀ j (h : j < d.size), j < k → Fx.isD d[j] = true)) (fun _ _ _ i => d.size - (intOf i).toNat)
  case atStart => exact ⟨0, 0, Nat.zero_le _, rfl, rfl, by omega, trivial, fun j _ hj => absurd hj (by omega)⟩
  case round =>
   obtain ⟨k, n, hk, rfl, rfl, hn, HV, HA⟩ := hrel
   by_cases hlt : k < d.size
   ·cases hD : Fx.isD d[k]
    ·have e1 : Hid (Fx.pbody d true = (0, 5)) := by
      show Fx.pbody d true = (0, 5)
      unfold Fx.pbody; rw [Fx.not_all d k hlt hD]; rfl
     have hc : d[k].toNat < 48 ∨ 57 < d[k].toNat := by simp [Fx.isD] at hD; omega
     clear hD
     rcases hc with hc | hc
     ·have hc' : ((d[k].toNat : Nat) : Int) < 48 := by omega
      clear hc
      go_wp2
      go_ret2
      exact ⟨Fx.R_mk e1.out, rfl⟩
     ·have hc' : 57 < ((d[k].toNat : Nat) : Int) := by omega
      clear hc
      go_wp2
      go_ret2
      exact ⟨Fx.R_mk e1.out, rfl⟩
    ·have hc : 48 ≤ d[k].toNat ∧ d[k].toNat ≤ 57 := by simpa [Fx.isD] using hD
     have hc1 : 48 ≤ ((d[k].toNat : Nat) : Int) := by omega
     have hc2 : ((d[k].toNat : Nat) : Int) ≤ 57 := by omega
     have HA2 : Hid (∀ j (h : j < d.size), j < k + 1 → Fx.isD d[j] = true) := fun j h hj => by
      by_cases hjk : j = k
      ·subst hjk; exact hD
      ·exact HA.out j h (by omega)
     clear hD hc
     go_wp2
     go_round
     case rel => exact ⟨k + 1, n, by omega, by go_num, rfl, hn, trivial, HA2⟩
     case measure => simp [intOf]; omega
   ·have HD : Hid (d.data.toList.all Fx.isD = true) := Fx.all_of d (fun j h => HA.out j h (by omega))
    have e1 : Hid (Fx.pbody d true = (0, 10)) := by
     show Fx.pbody d true = (0, 10)
     unfold Fx.pbody; rw [if_pos HD.out, if_pos hov.out]
    go_wp2
    go_ret2
    exact ⟨Fx.R_mk e1.out, rfl⟩
 
 ·have hov : d.size ≤ 19 := by omega
  have hob : decide (19 < (d.size : Int)) = false := by simp; omega
  go_enter Try.func91, Try.ntmps91
  go_wp2
  go_loop [6, 8, 9, 40] (fun v _ _ i => ∃ k n : Nat, k ≤ d.size ∧ i = .int .i64 k ∧ v = .int .u64 n ∧ n < 1000000000000000000 * 10 ∧ Hid (n = Fx.val (d.data.toList.take k)) ∧ Hid (∀ j (h : j < d.size), j < k → Fx.isD d[j] = true)) (fun _ _ _ i => d.size - (intOf i).toNat)
  case atStart => exact ⟨0, 0, Nat.zero_le _, rfl, rfl, by omega, (by simp [Fx.val] : 0 = Fx.val _), fun j _ hj => absurd hj (by omega)⟩
  case round =>
   obtain ⟨k, n, hk, rfl, rfl, hn, HV, HA⟩ := hrel
   by_cases hlt : k < d.size
   ·cases hD : Fx.isD d[k]
    ·have e1 : Hid (Fx.pbody d true = (0, 5)) := by
      show Fx.pbody d true = (0, 5)
      unfold Fx.pbody; rw [Fx.not_all d k hlt hD]; rfl
     have hc : d[k].toNat < 48 ∨ 57 < d[k].toNat := by simp [Fx.isD] at hD; omega
     clear hD
     rcases hc with hc | hc
     ·have hc' : ((d[k].toNat : Nat) : Int) < 48 := by omega
      clear hc
      go_wp2
      go_ret2
      exact ⟨Fx.R_mk e1.out, rfl⟩
     ·have hc' : 57 < ((d[k].toNat : Nat) : Int) := by omega
      clear hc
      go_wp2
      go_ret2
      exact ⟨Fx.R_mk e1.out, rfl⟩
    ·have hc : 48 ≤ d[k].toNat ∧ d[k].toNat ≤ 57 := by simpa [Fx.isD] using hD
     have hc1 : 48 ≤ ((d[k].toNat : Nat) : Int) := by omega
     have hc2 : ((d[k].toNat : Nat) : Int) ≤ 57 := by omega
     have HA2 : Hid (∀ j (h : j < d.size), j < k + 1 → Fx.isD d[j] = true) := fun j h hj => by
      by_cases hjk : j = k
      ·subst hjk; exact hD
      ·exact HA.out j h (by omega)
     have hn18 : n < 1000000000000000000 := by
      rw [HV.out]
      have := Fx.val_take_lt d k hk HA.out
      have h2 : (10 : Nat) ^ k ≤ 10 ^ 18 := Nat.pow_le_pow_right (by omega) (by omega)
      have h3 : (10 : Nat) ^ 18 = 1000000000000000000 := by decide
      omega
     have HV2 : Hid (10 * n + (d[k].toNat - 48) = Fx.val (d.data.toList.take (k + 1))) := by
      show 10 * n + (d[k].toNat - 48) = Fx.val (d.data.toList.take (k + 1))
      rw [Fx.val_take d k hlt, HV.out]
     clear hD hc
     go_wp2
     go_round
     case rel => exact ⟨k + 1, 10 * n + (d[k].toNat - 48), by omega, by go_num, by go_num, by omega, HV2, HA2⟩
     case measure => simp [intOf]; omega
   ·have HD : Hid (d.data.toList.all Fx.isD = true) := Fx.all_of d (fun j h => HA.out j h (by omega))
    have e1 : Hid (Fx.pbody d true = Fx.signedV 0 n true) := by
     show Fx.pbody d true = Fx.signedV 0 n true
     unfold Fx.pbody; rw [if_pos HD.out, if_neg (by omega), HV.out, List.take_of_length_le (by simp; omega)]
    go_wp2_with (go_at_call 103; refine (signed_any _ _ _ _ (by omega) (by omega)).mono ?_; rintro e w' ⟨rfl, rfl⟩; unfold Fx.R)
    go_ret2
    exact ⟨Fx.R_mk e1.out, rfl⟩
theorem Parse_empty (w : World) :
  Calls Try.prog 91 #[.string ⟨#[]⟩] w fun e w' => e = .returned (.tuple #[.int .i64 0, .int .i64 5]) ∧ w = w' := by
 go_enter Try.func91, Try.ntmps91
 go_wp2
 go_ret2
 exact ⟨rfl, rfl⟩
theorem Parse_lead (s : ByteArray) (w : World) (hs : s.size ≤ 9223372036854775807) (h0 : 1 < s.size) (h00 : 0 < s.size) (hz : ((s[0].toNat : Int) == 48) = true) :
  Calls Try.prog 91 #[.string s] w fun e w' => e = .returned (.tuple #[.int .i64 0, .int .i64 5]) ∧ w = w' := by
 have hm : ((s[0].toNat : Int) == 45) = false := by
  have : (s[0].toNat : Int) = 48 := by simpa using hz
  rw [this]; decide
 have hne : ((s.size : Int) == 0) = false := beq_eq_false_iff_ne.2 (by omega)
 have hne' : 1 < (s.size : Int) := by omega
 have hne'' : 0 < (s.size : Int) := by omega
 go_enter Try.func91, Try.ntmps91
 go_wp2
 go_ret2
 exact ⟨rfl, rfl⟩
theorem Parse_sign (s : ByteArray) (w : World) (hs : s.size ≤ 9223372036854775807) (h0 : 0 < s.size) (hm : ((s[0].toNat : Int) == 45) = true) (hd : s.extract 1 s.size = ⟨#[]⟩) :
  Calls Try.prog 91 #[.string s] w fun e w' => e = .returned (.tuple #[.int .i64 0, .int .i64 5]) ∧ w = w' := by
 have h0' : 0 < (s.size : Int) := by omega
 have h1' : 1 ≤ (s.size : Int) := by omega
 go_enter Try.func91, Try.ntmps91
 go_wp2
 go_ret2
 exact ⟨rfl, rfl⟩
theorem Parse_slead (s : ByteArray) (d : ByteArray) (w : World) (hs : s.size ≤ 9223372036854775807) (h0 : 0 < s.size) (hm : ((s[0].toNat : Int) == 45) = true) (hd : s.extract 1 s.size = d) (h1 : 0 < d.size) (hl : d.size + 1 ≤ s.size) (hz : ((d[0].toNat : Int) == 48) = true) :
  Calls Try.prog 91 #[.string s] w fun e w' => e = .returned (.tuple #[.int .i64 0, .int .i64 5]) ∧ w = w' := by
 have hne : ((d.size : Int) == 0) = false := beq_eq_false_iff_ne.2 (by omega)
 have hne' : 0 < (d.size : Int) := by omega
 have h0' : 0 < (s.size : Int) := by omega
 have h1' : 1 < (s.size : Int) := by omega
 go_enter Try.func91, Try.ntmps91
 go_wp2
 go_ret2
 exact ⟨rfl, rfl⟩
theorem Fx.at0 (s : ByteArray) (h : 0 < s.size) : s.data.toList.head? = some s[0] := by
 obtain ⟨⟨l⟩⟩ := s
 cases l with
 | nil => simp [ByteArray.size] at h
 | cons c l => rfl
theorem Fx.ext_tail (s : ByteArray) : (s.extract 1 s.size).data.toList = s.data.toList.tail := by
 rw [Lib.extract_data]
 simp only [List.drop_one]
 exact List.take_of_length_le (by rw [List.length_tail]; exact Nat.sub_le_sub_right (Nat.le_of_eq (Array.length_toList)) 1)
theorem Fx.size_toList (s : ByteArray) : s.data.toList.length = s.size := Array.length_toList
theorem Parse_any (s : ByteArray) (w : World) (hs : s.size ≤ 9223372036854775807) :
  Calls Try.prog 91 #[.string s] w fun e w' => e = .returned (Fx.R (Fx.parse s.data.toList)) ∧ w = w' := by
 by_cases h0 : s.size = 0
 ·have e : s = ⟨#[]⟩ := by
   obtain ⟨⟨l⟩⟩ := s
   cases l with
   | nil => rfl
   | cons c l => simp [ByteArray.size] at h0
  subst e
  exact Parse_empty w
 have hp : 0 < s.size := by omega
 have hat := Fx.at0 s hp
 by_cases hm : s[0].toNat = 45
 ·have hm' : ((s[0].toNat : Int) == 45) = true := beq_iff_eq.2 (by omega)
  have h45 : s[0] = 45 := UInt8.toNat_inj.1 (by rw [hm]; rfl)
  rw [h45] at hat
  obtain ⟨d, hd⟩ : ∃ d, s.extract 1 s.size = d := ⟨_, rfl⟩
  have hdl : d.data.toList = s.data.toList.tail := by rw [← hd]; exact Fx.ext_tail s
  have hds : d.size + 1 = s.size := by
   have := congrArg List.length hdl
   rw [List.length_tail, Fx.size_toList, Fx.size_toList] at this
   omega
  have hdig : Fx.dig s.data.toList = d.data.toList := by unfold Fx.dig; rw [if_pos hat, hdl]
  have hneg : Fx.neg s.data.toList = true := by unfold Fx.neg; rw [hat]; rfl
  by_cases h1 : d.size = 0
  ·have e : d = ⟨#[]⟩ := by
    obtain ⟨⟨l⟩⟩ := d
    cases l with
    | nil => rfl
    | cons c l => simp [ByteArray.size] at h1
   have hf : Fx.form s.data.toList = false := by unfold Fx.form; rw [hdig, e]; rfl
   have := Parse_sign s w hs hp hm' (by rw [hd, e])
   unfold Fx.parse; rw [hf]; exact this
  have hd0 := Fx.at0 d (by omega)
  by_cases hz : d[0].toNat = 48
  ·have hz' : ((d[0].toNat : Int) == 48) = true := beq_iff_eq.2 (by omega)
   have h48 : d[0] = 48 := UInt8.toNat_inj.1 (by rw [hz]; rfl)
   have hf : Fx.form s.data.toList = false := by unfold Fx.form; rw [hdig, hd0, h48, Fx.size_toList]; simp; omega
   have := Parse_slead s d w hs hp hm' hd (by omega) (by omega) hz'
   unfold Fx.parse; rw [hf]; exact this
  ·have hz' : ((d[0].toNat : Int) == 48) = false := beq_eq_false_iff_ne.2 (by omega)
   have h48 : (some d[0] == some (48 : UInt8)) = false := by
    rw [beq_eq_false_iff_ne]; intro h; injection h with h; rw [h] at hz; exact hz rfl
   have hne : d.data.toList.isEmpty = false := by rw [List.isEmpty_eq_false_iff]; intro h; have := Fx.size_toList d; rw [h] at this; simp at this; omega
   have hf : Fx.form s.data.toList = d.data.toList.all Fx.isD := by unfold Fx.form; rw [hdig, hd0, h48, hne]; simp
   have := Parse_minus s d w hs hp hm' hd (by omega) (by omega) hz'
   unfold Fx.parse; rw [hf, hdig, hneg, Fx.size_toList]; exact this
 ·have hm' : ((s[0].toNat : Int) == 45) = false := beq_eq_false_iff_ne.2 (by omega)
  have h45 : ¬ s.data.toList.head? = some 45 := by rw [hat]; intro h; injection h with h; rw [h] at hm; exact hm rfl
  have hdig : Fx.dig s.data.toList = s.data.toList := by unfold Fx.dig; rw [if_neg h45]
  have hneg : Fx.neg s.data.toList = false := by unfold Fx.neg; rw [beq_eq_false_iff_ne]; exact h45
  have hne : s.data.toList.isEmpty = false := by rw [List.isEmpty_eq_false_iff]; intro h; have := Fx.size_toList s; rw [h] at this; simp at this; omega
  by_cases hz : s[0].toNat = 48
  ·have hz' : ((s[0].toNat : Int) == 48) = true := beq_iff_eq.2 (by omega)
   have h48 : s[0] = 48 := UInt8.toNat_inj.1 (by rw [hz]; rfl)
   by_cases h1 : s.size = 1
   ·have hf : Fx.form s.data.toList = s.data.toList.all Fx.isD := by unfold Fx.form; rw [hdig, hat, hne, Fx.size_toList, h1]; simp
    have := Parse_zero s w hs h1 hp hz'
    unfold Fx.parse; rw [hf, hdig, hneg, Fx.size_toList]; exact this
   ·have hf : Fx.form s.data.toList = false := by unfold Fx.form; rw [hdig, hat, h48, Fx.size_toList]; simp; omega
    have := Parse_lead s w hs (by omega) hp hz'
    unfold Fx.parse; rw [hf]; exact this
  ·have hz' : ((s[0].toNat : Int) == 48) = false := beq_eq_false_iff_ne.2 (by omega)
   have h48 : (some s[0] == some (48 : UInt8)) = false := by
    rw [beq_eq_false_iff_ne]; intro h; injection h with h; rw [h] at hz; exact hz rfl
   have hf : Fx.form s.data.toList = s.data.toList.all Fx.isD := by unfold Fx.form; rw [hdig, hat, h48, hne]; simp
   have := Parse_plain s w hs hp hm' hz'
   unfold Fx.parse; rw [hf, hdig, hneg, Fx.size_toList]; exact this
end Go.Proofs.Ytcopdfihaheplaa
