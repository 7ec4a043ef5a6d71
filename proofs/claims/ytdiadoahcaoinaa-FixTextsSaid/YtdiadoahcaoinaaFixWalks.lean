/-
  The walks of the package fix and of shuttleref01: what each function returns.
-/
import Derived.Test.YtdiadoahcaoinaaRows
import Derived.WalkKit
import Derived.WalkSpells
import Derived.WalkLawsBesides
import Derived.Deep.QuietTactic
import Derived.BigQuiet
import Derived.Lib.Hide
import Derived.Lib.Mul64
import Derived.Laws.Bits64b
namespace Go.Proofs.Ytdiadoahcaoinaa
open Go.RowKit

namespace Fx
/-- a fixnum -/
def isF (n : Int) : Bool := decide (-1152921504606846976 ≤ n) && decide (n ≤ 1152921504606846975)
end Fx

theorem In_any (n : Int) (w : World) :
    Calls Try.prog 23 #[.int .i64 n] w fun e w' => e = .returned (.bool (Fx.isF n)) ∧ w = w' := by
  by_cases h : -1152921504606846976 ≤ n
  · go_enter Try.func23, Try.ntmps23
    go_wp2
    go_ret
    exact ⟨by simp [Fx.isF, h], rfl⟩
  · go_enter Try.func23, Try.ntmps23
    go_wp2
    go_ret
    exact ⟨by simp [Fx.isF]; omega, rfl⟩

theorem fits_yes (n : Int) (w : World) (h : Fx.isF n = true) :
    Calls Try.prog 46 #[.int .i64 n] w fun e w' => e = .returned (.tuple #[.int .i64 n, .int .i64 0]) ∧ w = w' := by
  go_enter Try.func46, Try.ntmps46
  go_wp2_with (go_at_call 23; refine (In_any _ _).mono ?_; rintro e w' ⟨rfl, rfl⟩)
  go_ret2
  exact ⟨rfl, rfl⟩
theorem fits_no (n : Int) (w : World) (h : Fx.isF n = false) :
    Calls Try.prog 46 #[.int .i64 n] w fun e w' => e = .returned (.tuple #[.int .i64 0, .int .i64 10]) ∧ w = w' := by
  go_enter Try.func46, Try.ntmps46
  go_wp2_with (go_at_call 23; refine (In_any _ _).mono ?_; rintro e w' ⟨rfl, rfl⟩)
  go_ret2
  exact ⟨rfl, rfl⟩

/-- fix.all -/
def Fx.allE (f : Nat → Int) (n : Nat) : Int := if (List.range n).all (fun k => Fx.isF (f k)) then 0 else 1
theorem Fx.allE_stop (f : Nat → Int) (n k : Nat) (hk : k < n) (h : Fx.isF (f k) = false) : Fx.allE f n = 1 := by
  unfold Fx.allE
  rw [if_neg]
  simp only [List.all_eq_true, List.mem_range]
  intro H
  have := H k hk
  simp [h] at this
theorem Fx.allE_end (f : Nat → Int) (n : Nat) (h : ∀ k, k < n → Fx.isF (f k) = true) : Fx.allE f n = 0 := by
  unfold Fx.allE
  rw [if_pos]
  simpa using h
theorem Fx.allE_01 (f : Nat → Int) (n : Nat) : Fx.allE f n = 0 ∨ Fx.allE f n = 1 := by
  unfold Fx.allE
  split <;> simp
theorem Fx.ret {k : IntKind} {a b : Int} (h : a = b) : Ending.returned (.int k a) = .returned (.int k b) := by rw [h]
theorem Fx.ret2 {k l : IntKind} {a b c d : Int} (h : a = b) (h' : c = d) : Ending.returned (.tuple #[.int k a, .int l c]) = .returned (.tuple #[.int k b, .int l d]) := by rw [h, h']

theorem all_any (f : Nat → Int) (n : Nat) (ad : Nat) (w : World) (hn : n ≤ 1000) (hc : ∀ k, k < n → w.cell? ⟨ad, k, none⟩ = some (.int .i64 (f k))) :
    Calls Try.prog 47 #[.slice (some ⟨ad, 0, none⟩) n n] w fun e w' => e = .returned (.int .i64 (Fx.allE f n)) ∧ w = w' := by
  have HC := Lib.hid hc; clear hc
  go_enter Try.func47, Try.ntmps47
  go_wp2
  go_loop [7] (fun i => ∃ k : Nat, k ≤ n ∧ i = .int .i64 k ∧ Hid (∀ j, j < k → Fx.isF (f j) = true)) (fun i => n - (intOf i).toNat)
  case atStart => exact ⟨0, Nat.zero_le _, rfl, Lib.hid (fun j hj => absurd hj (by omega))⟩
  case round =>
    obtain ⟨k, hk, rfl, HA⟩ := hrel
    by_cases hlt : k < n
    · have hcell := HC.out k hlt
      cases hF : Fx.isF (f k)
      · go_wp2_with (go_at_call 23; refine (In_any _ _).mono ?_; rintro e w' ⟨rfl, rfl⟩)
        go_ret
        exact ⟨Fx.ret (Fx.allE_stop f n k hlt hF).symm, rfl⟩
      · go_wp2_with (go_at_call 23; refine (In_any _ _).mono ?_; rintro e w' ⟨rfl, rfl⟩)
        go_round
        case rel => exact ⟨k + 1, by omega, by go_num, Lib.hid (fun j hj => by
          rcases Nat.lt_succ_iff_lt_or_eq.1 hj with h | h
          · exact HA.out j h
          · rw [h]; exact hF)⟩
        case measure => simp [intOf]; omega
    · go_wp2
      go_ret
      exact ⟨Fx.ret (Fx.allE_end f n (fun j hj => HA.out j (by omega))).symm, rfl⟩

/-- two new cells -/
theorem all_two_ok (a b : Int) (ad : Nat) (w : World) (ha : Fx.isF a = true) (hb : Fx.isF b = true) (h0 : w.cell? ⟨ad, 0, none⟩ = some (.int .i64 a)) (h1 : w.cell? ⟨ad, 1, none⟩ = some (.int .i64 b)) :
    Calls Try.prog 47 #[.slice (some ⟨ad, 0, none⟩) 2 2] w fun e w' => e = .returned (.int .i64 0) ∧ w = w' := by
  have h := all_any (fun k => if k = 0 then a else b) 2 ad w (by omega) (fun k hk => by
    rcases k with _ | _ | k
    · simpa using h0
    · simpa using h1
    · omega)
  rw [Fx.allE_end _ _ (fun k _ => by split <;> assumption)] at h
  exact h
theorem all_two_bad (a b : Int) (ad : Nat) (w : World) (hab : (Fx.isF a && Fx.isF b) = false) (h0 : w.cell? ⟨ad, 0, none⟩ = some (.int .i64 a)) (h1 : w.cell? ⟨ad, 1, none⟩ = some (.int .i64 b)) :
    Calls Try.prog 47 #[.slice (some ⟨ad, 0, none⟩) 2 2] w fun e w' => e = .returned (.int .i64 1) ∧ w = w' := by
  have h := all_any (fun k => if k = 0 then a else b) 2 ad w (by omega) (fun k hk => by
    rcases k with _ | _ | k
    · simpa using h0
    · simpa using h1
    · omega)
  have e : Fx.allE (fun k => if k = 0 then a else b) 2 = 1 := by
    cases ha : Fx.isF a
    · exact Fx.allE_stop _ _ 0 (by omega) (by simpa using ha)
    · exact Fx.allE_stop _ _ 1 (by omega) (by simpa [ha] using hab)
  rw [e] at h
  exact h

namespace Fx
def fitsV (n : Int) : Int × Int := if isF n then (n, 0) else (0, 10)
def two (f : Int → Int → Int × Int) (a b : Int) : Int × Int := if isF a && isF b then f a b else (0, 1)
def add : Int → Int → Int × Int := two fun a b => fitsV (a + b)
def sub : Int → Int → Int × Int := two fun a b => fitsV (a - b)
def quo : Int → Int → Int × Int := two fun a b => if b = 0 then (0, 11) else fitsV (a.tdiv b)
def rem : Int → Int → Int × Int := two fun a b => if b = 0 then (0, 11) else (a.tmod b, 0)
def mod : Int → Int → Int × Int := two fun a b => if b = 0 then (0, 11) else ((a.tmod b + b).tmod b, 0)
theorem two_bad {f : Int → Int → Int × Int} {a b : Int} (h : (isF a && isF b) = false) : two f a b = (0, 1) := by simp [two, h]
theorem two_ok {f : Int → Int → Int × Int} {a b : Int} (ha : isF a = true) (hb : isF b = true) : two f a b = f a b := by simp [two, ha, hb]
theorem isF_bd {a : Int} (h : isF a = true) : -1152921504606846976 ≤ a ∧ a ≤ 1152921504606846975 := by simpa [isF] using h
theorem isF_mk {a : Int} (h : -1152921504606846976 ≤ a ∧ a ≤ 1152921504606846975) : isF a = true := by simpa [isF] using h
theorem tdiv_bd (a b : Int) : -a.natAbs ≤ a.tdiv b ∧ a.tdiv b ≤ a.natAbs := by
  have h1 := Int.natAbs_tdiv_le_natAbs a b
  omega
theorem tmod_bd (a b : Int) (h : b ≠ 0) : -b.natAbs < a.tmod b ∧ a.tmod b < b.natAbs := by
  have h1 : (a.tmod b).natAbs < b.natAbs := by rw [Int.natAbs_tmod]; exact Nat.mod_lt _ (by omega)
  omega
theorem wrap_tdiv (a b : Int) (ha : -1152921504606846976 ≤ a ∧ a ≤ 1152921504606846975) (_hb : -1152921504606846976 ≤ b ∧ b ≤ 1152921504606846975) (_h : b ≠ 0) : wrap64 (a.tdiv b) = a.tdiv b := by
  have := tdiv_bd a b
  exact IntWalk.wrap64_in _ (by omega)
theorem wrap_tmod (a b : Int) (_ha : -1152921504606846976 ≤ a ∧ a ≤ 1152921504606846975) (hb : -1152921504606846976 ≤ b ∧ b ≤ 1152921504606846975) (h : b ≠ 0) : wrap64 (a.tmod b) = a.tmod b := by
  have := tmod_bd a b h
  exact IntWalk.wrap64_in _ (by omega)
theorem tmod_bd2 (a b : Int) (hb : -1152921504606846976 ≤ b ∧ b ≤ 1152921504606846975) (h : b ≠ 0) : -1152921504606846976 < a.tmod b ∧ a.tmod b < 1152921504606846976 := by
  have := tmod_bd a b h
  omega
theorem wrap_tmod2 (a b : Int) (hb : -1152921504606846976 ≤ b ∧ b ≤ 1152921504606846975) (h : b ≠ 0) : wrap64 ((a.tmod b + b).tmod b) = (a.tmod b + b).tmod b := by
  have := tmod_bd2 (a.tmod b + b) b hb h
  exact IntWalk.wrap64_in _ (by omega)
def abs (a : Int) : Int := if a < 0 then -a else a
theorem abs_bd {a : Int} (h : -1152921504606846976 ≤ a ∧ a ≤ 1152921504606846976) : 0 ≤ abs a ∧ abs a ≤ 1152921504606846976 := by unfold abs; split <;> omega
def signedV (high low : Int) (minus : Bool) : Int × Int := if high ≠ 0 ∨ 1152921504606846976 < low then (0, 10) else fitsV (if minus then -low else low)
/-- the pair as the walk's value -/
def R (p : Int × Int) : Value := .tuple #[.int .i64 p.1, .int .i64 p.2]
theorem R_mk {p : Int × Int} {a b : Int} (h : p = (a, b)) : Ending.returned (.tuple #[.int .i64 a, .int .i64 b]) = .returned (R p) := by rw [h]; rfl
end Fx

theorem fits_any (n : Int) (w : World) :
    Calls Try.prog 46 #[.int .i64 n] w fun e w' => e = .returned (.tuple #[.int .i64 (Fx.fitsV n).1, .int .i64 (Fx.fitsV n).2]) ∧ w = w' := by
  cases h : Fx.isF n
  · have e : Fx.fitsV n = (0, 10) := by simp [Fx.fitsV, h]
    rw [e]; exact fits_no n w h
  · have e : Fx.fitsV n = (n, 0) := by simp [Fx.fitsV, h]
    rw [e]; exact fits_yes n w h

theorem Add_any (a b : Int) (w : World) :
    Calls Try.prog 17 #[.int .i64 a, .int .i64 b] w fun e w' => e = .returned (Fx.R (Fx.add a b)) ∧ Below w.heap.size w w' := by
  cases hab : Fx.isF a && Fx.isF b
  · have e1 := Lib.hid (Fx.two_bad (f := fun a b => Fx.fitsV (a + b)) hab)
    go_enter Try.func17, Try.ntmps17
    go_wp2_with (go_at_call 47; refine (all_two_bad a b _ _ hab (by simp [go_sem]) (by simp [go_sem])).mono ?_; rintro e w' ⟨rfl, rfl⟩)
    go_ret2
    exact ⟨Fx.R_mk e1.out, (Below.refl _ _).alloc (Nat.le_refl _) _⟩
  · obtain ⟨ha, hb⟩ : Fx.isF a = true ∧ Fx.isF b = true := by simpa using hab
    have ba := Fx.isF_bd ha
    have bb := Fx.isF_bd hb
    have e1 := Lib.hid (Fx.two_ok (f := fun a b => Fx.fitsV (a + b)) ha hb)
    clear hab
    go_enter Try.func17, Try.ntmps17
    go_wp2_with (first | (go_at_call 47; refine (all_two_ok a b _ _ ha hb (by simp [go_sem]) (by simp [go_sem])).mono ?_; rintro e w' ⟨rfl, rfl⟩) | (go_at_call 46; refine (fits_any _ _).mono ?_; rintro e w' ⟨rfl, rfl⟩))
    go_ret2
    exact ⟨Fx.R_mk e1.out, (Below.refl _ _).alloc (Nat.le_refl _) _⟩

theorem Sub_any (a b : Int) (w : World) :
    Calls Try.prog 19 #[.int .i64 a, .int .i64 b] w fun e w' => e = .returned (Fx.R (Fx.sub a b)) ∧ Below w.heap.size w w' := by
  cases hab : Fx.isF a && Fx.isF b
  · have e1 := Lib.hid (Fx.two_bad (f := fun a b => Fx.fitsV (a - b)) hab)
    go_enter Try.func19, Try.ntmps19
    go_wp2_with (go_at_call 47; refine (all_two_bad a b _ _ hab (by simp [go_sem]) (by simp [go_sem])).mono ?_; rintro e w' ⟨rfl, rfl⟩)
    go_ret2
    exact ⟨Fx.R_mk e1.out, (Below.refl _ _).alloc (Nat.le_refl _) _⟩
  · obtain ⟨ha, hb⟩ : Fx.isF a = true ∧ Fx.isF b = true := by simpa using hab
    have ba := Fx.isF_bd ha
    have bb := Fx.isF_bd hb
    have e1 := Lib.hid (Fx.two_ok (f := fun a b => Fx.fitsV (a - b)) ha hb)
    clear hab
    go_enter Try.func19, Try.ntmps19
    go_wp2_with (first | (go_at_call 47; refine (all_two_ok a b _ _ ha hb (by simp [go_sem]) (by simp [go_sem])).mono ?_; rintro e w' ⟨rfl, rfl⟩) | (go_at_call 46; refine (fits_any _ _).mono ?_; rintro e w' ⟨rfl, rfl⟩))
    go_ret2
    exact ⟨Fx.R_mk e1.out, (Below.refl _ _).alloc (Nat.le_refl _) _⟩


theorem Neg_any (a : Int) (w : World) :
    Calls Try.prog 21 #[.int .i64 a] w fun e w' => e = .returned (Fx.R (Fx.sub 0 a)) ∧ Below w.heap.size w w' := by
  go_enter Try.func21, Try.ntmps21
  go_wp2_with (go_at_call 19; refine (Sub_any _ _ _).mono ?_; rintro e w' ⟨rfl, hb⟩; unfold Fx.R)
  go_ret2
  exact ⟨rfl, hb⟩

theorem parts_bad (a b : Int) (w : World) (hab : (Fx.isF a && Fx.isF b) = false) :
    Calls Try.prog 45 #[.int .i64 a, .int .i64 b] w fun e w' => e = .returned (.int .i64 1) ∧ Below w.heap.size w w' := by
  go_enter Try.func45, Try.ntmps45
  go_wp2_with (go_at_call 47; refine (all_two_bad a b _ _ hab (by simp [go_sem]) (by simp [go_sem])).mono ?_; rintro e w' ⟨rfl, rfl⟩)
  go_ret
  exact ⟨rfl, (Below.refl _ _).alloc (Nat.le_refl _) _⟩
theorem parts_zero (a : Int) (w : World) (ha : Fx.isF a = true) :
    Calls Try.prog 45 #[.int .i64 a, .int .i64 0] w fun e w' => e = .returned (.int .i64 11) ∧ Below w.heap.size w w' := by
  go_enter Try.func45, Try.ntmps45
  go_wp2_with (go_at_call 47; refine (all_two_ok a 0 _ _ ha (by decide) (by simp [go_sem]) (by simp [go_sem])).mono ?_; rintro e w' ⟨rfl, rfl⟩)
  go_ret
  exact ⟨rfl, (Below.refl _ _).alloc (Nat.le_refl _) _⟩
theorem parts_ok (a b : Int) (w : World) (ha : Fx.isF a = true) (hb : Fx.isF b = true) (h0 : b ≠ 0) :
    Calls Try.prog 45 #[.int .i64 a, .int .i64 b] w fun e w' => e = .returned (.int .i64 0) ∧ Below w.heap.size w w' := by
  have hz : (b == 0) = false := by simpa using h0
  clear h0
  go_enter Try.func45, Try.ntmps45
  go_wp2_with (go_at_call 47; refine (all_two_ok a b _ _ ha hb (by simp [go_sem]) (by simp [go_sem])).mono ?_; rintro e w' ⟨rfl, rfl⟩)
  go_ret
  exact ⟨rfl, (Below.refl _ _).alloc (Nat.le_refl _) _⟩

theorem Quo_any (a b : Int) (w : World) :
    Calls Try.prog 13 #[.int .i64 a, .int .i64 b] w fun e w' => e = .returned (Fx.R (Fx.quo a b)) ∧ Below w.heap.size w w' := by
  cases hab : Fx.isF a && Fx.isF b
  · have e1 := Lib.hid (Fx.two_bad (f := fun a b => if b = 0 then (0, 11) else Fx.fitsV (a.tdiv b)) hab)
    go_enter Try.func13, Try.ntmps13
    go_wp2_with (go_at_call 45; refine (parts_bad a b _ hab).mono ?_; rintro e w' ⟨rfl, hb⟩)
    go_ret2
    exact ⟨Fx.R_mk e1.out, hb⟩
  · obtain ⟨ha, hb⟩ : Fx.isF a = true ∧ Fx.isF b = true := by simpa using hab
    clear hab
    by_cases h0 : b = 0
    · subst h0
      have e1 := Lib.hid (Fx.two_ok (f := fun a b => if b = 0 then (0, 11) else Fx.fitsV (a.tdiv b)) ha hb)
      go_enter Try.func13, Try.ntmps13
      go_wp2_with (go_at_call 45; refine (parts_zero a _ ha).mono ?_; rintro e w' ⟨rfl, hb⟩)
      go_ret2
      exact ⟨Fx.R_mk (p := Fx.two _ a 0) (by simpa using e1.out), hb⟩
    · have ba := Fx.isF_bd ha
      have bd := Fx.isF_bd hb
      have e1 := Lib.hid ((Fx.two_ok (f := fun a b => if b = 0 then (0, 11) else Fx.fitsV (a.tdiv b)) ha hb).trans (if_neg h0))
      have hz : (b == 0) = false := by simpa using h0
      have hw := Fx.wrap_tdiv a b ba bd h0
      go_enter Try.func13, Try.ntmps13
      go_wp2_with (first | (go_at_call 45; refine (parts_ok a b _ ha hb h0).mono ?_; rintro e w' ⟨rfl, hb⟩) | (go_at_call 46; refine (fits_any _ _).mono ?_; rintro e w' ⟨rfl, rfl⟩))
      go_ret2
      exact ⟨Fx.R_mk e1.out, hb⟩

theorem Rem_any (a b : Int) (w : World) :
    Calls Try.prog 14 #[.int .i64 a, .int .i64 b] w fun e w' => e = .returned (Fx.R (Fx.rem a b)) ∧ Below w.heap.size w w' := by
  cases hab : Fx.isF a && Fx.isF b
  · have e1 := Lib.hid (Fx.two_bad (f := fun a b => if b = 0 then (0, 11) else (a.tmod b, 0)) hab)
    go_enter Try.func14, Try.ntmps14
    go_wp2_with (go_at_call 45; refine (parts_bad a b _ hab).mono ?_; rintro e w' ⟨rfl, hb⟩)
    go_ret2
    exact ⟨Fx.R_mk e1.out, hb⟩
  · obtain ⟨ha, hb⟩ : Fx.isF a = true ∧ Fx.isF b = true := by simpa using hab
    clear hab
    by_cases h0 : b = 0
    · subst h0
      have e1 := Lib.hid (Fx.two_ok (f := fun a b => if b = 0 then (0, 11) else (a.tmod b, 0)) ha hb)
      go_enter Try.func14, Try.ntmps14
      go_wp2_with (go_at_call 45; refine (parts_zero a _ ha).mono ?_; rintro e w' ⟨rfl, hb⟩)
      go_ret2
      exact ⟨Fx.R_mk (p := Fx.two _ a 0) (by simpa using e1.out), hb⟩
    · have ba := Fx.isF_bd ha
      have bd := Fx.isF_bd hb
      have e1 := Lib.hid ((Fx.two_ok (f := fun a b => if b = 0 then (0, 11) else (a.tmod b, 0)) ha hb).trans (if_neg h0))
      have hz : (b == 0) = false := by simpa using h0
      have hw := Fx.wrap_tmod a b ba bd h0
      go_enter Try.func14, Try.ntmps14
      go_wp2_with (first | (go_at_call 45; refine (parts_ok a b _ ha hb h0).mono ?_; rintro e w' ⟨rfl, hb⟩))
      go_ret2
      exact ⟨Fx.R_mk e1.out, hb⟩


theorem Mod_any (a b : Int) (w : World) :
    Calls Try.prog 15 #[.int .i64 a, .int .i64 b] w fun e w' => e = .returned (Fx.R (Fx.mod a b)) ∧ Below w.heap.size w w' := by
  cases hab : Fx.isF a && Fx.isF b
  · have e1 := Lib.hid (Fx.two_bad (f := fun a b => if b = 0 then (0, 11) else ((a.tmod b + b).tmod b, 0)) hab)
    go_enter Try.func15, Try.ntmps15
    go_wp2_with (go_at_call 45; refine (parts_bad a b _ hab).mono ?_; rintro e w' ⟨rfl, hb⟩)
    go_ret2
    exact ⟨Fx.R_mk e1.out, hb⟩
  · obtain ⟨ha, hb⟩ : Fx.isF a = true ∧ Fx.isF b = true := by simpa using hab
    clear hab
    by_cases h0 : b = 0
    · subst h0
      have e1 := Lib.hid (Fx.two_ok (f := fun a b => if b = 0 then (0, 11) else ((a.tmod b + b).tmod b, 0)) ha hb)
      go_enter Try.func15, Try.ntmps15
      go_wp2_with (go_at_call 45; refine (parts_zero a _ ha).mono ?_; rintro e w' ⟨rfl, hb⟩)
      go_ret2
      exact ⟨Fx.R_mk (p := Fx.two _ a 0) (by simpa using e1.out), hb⟩
    · have ba := Fx.isF_bd ha
      have bd := Fx.isF_bd hb
      have e1 := Lib.hid ((Fx.two_ok (f := fun a b => if b = 0 then (0, 11) else ((a.tmod b + b).tmod b, 0)) ha hb).trans (if_neg h0))
      have hz : (b == 0) = false := by simpa using h0
      have hw := Fx.wrap_tmod a b ba bd h0
      have hw1 := Fx.tmod_bd2 a b bd h0
      have hw2 := Fx.wrap_tmod2 a b bd h0
      go_enter Try.func15, Try.ntmps15
      go_wp2_with (first | (go_at_call 45; refine (parts_ok a b _ ha hb h0).mono ?_; rintro e w' ⟨rfl, hb⟩))
      go_ret2
      exact ⟨Fx.R_mk e1.out, hb⟩

theorem size_any (a : Int) (w : World) (h : -1152921504606846976 ≤ a ∧ a ≤ 1152921504606846976) :
    Calls Try.prog 49 #[.int .i64 a] w fun e w' => e = .returned (.int .u64 (Fx.abs a)) ∧ w = w' := by
  by_cases h0 : a < 0
  · go_enter Try.func49, Try.ntmps49
    go_wp2
    go_ret
    refine ⟨Fx.ret ?_, rfl⟩
    simp [Fx.abs, h0]
  · go_enter Try.func49, Try.ntmps49
    go_wp2
    go_ret
    refine ⟨Fx.ret ?_, rfl⟩
    simp [Fx.abs]
    omega

theorem signed_any (high low : Int) (minus : Bool) (w : World) (h1 : 0 ≤ high) (h2 : 0 ≤ low) :
    Calls Try.prog 50 #[.int .u64 high, .int .u64 low, .bool minus] w fun e w' => e = .returned (Fx.R (Fx.signedV high low minus)) ∧ w = w' := by
  by_cases hh : high = 0
  · subst hh
    by_cases hl : 1152921504606846976 < low
    · have e1 := Lib.hid (show Fx.signedV 0 low minus = (0, 10) from if_pos (.inr hl))
      go_enter Try.func50, Try.ntmps50
      go_wp2
      go_ret2
      exact ⟨Fx.R_mk e1.out, rfl⟩
    · cases minus
      · have e1 := Lib.hid (show Fx.signedV 0 low false = Fx.fitsV low from if_neg (by omega))
        go_enter Try.func50, Try.ntmps50
        go_wp2_with (go_at_call 46; refine (fits_any _ _).mono ?_; rintro e w' ⟨rfl, rfl⟩)
        go_ret2
        exact ⟨Fx.R_mk e1.out, rfl⟩
      · have e1 := Lib.hid (show Fx.signedV 0 low true = Fx.fitsV (-low) from if_neg (by omega))
        go_enter Try.func50, Try.ntmps50
        go_wp2_with (go_at_call 46; refine (fits_any _ _).mono ?_; rintro e w' ⟨rfl, rfl⟩)
        go_ret2
        exact ⟨Fx.R_mk e1.out, rfl⟩
  · have hb : (high != 0) = true := by simpa using hh
    have e1 := Lib.hid (show Fx.signedV high low minus = (0, 10) from if_pos (.inl hh))
    clear hh
    go_enter Try.func50, Try.ntmps50
    go_wp2
    go_ret2
    exact ⟨Fx.R_mk e1.out, rfl⟩


namespace Fx
theorem maskN (a : Nat) (ha : a < 18446744073709551616) : bits .and .u64 (a : Int) 4294967295 = ((a % 4294967296 : Nat) : Int) := by
  have h := bits_and_u64_nat a 4294967295 ha (by omega)
  have e : a &&& 4294967295 = a % 4294967296 := Nat.and_two_pow_sub_one_eq_mod a 32
  rw [e] at h
  exact h
theorem divN (a : Nat) : (a : Int) / 4294967296 = ((a / 4294967296 : Nat) : Int) := by omega
theorem mulN (a b : Nat) : (a : Int) * (b : Int) = ((a * b : Nat) : Int) := (Int.natCast_mul a b).symm
theorem addN (a b : Nat) : (a : Int) + (b : Int) = ((a + b : Nat) : Int) := (Int.natCast_add a b).symm
theorem wrapN (a : Nat) (ha : a < 18446744073709551616) : IntKind.u64.wrap (a : Int) = (a : Int) := by rw [IntKind.wrap_u64]; omega
theorem wrapM (a : Nat) : IntKind.u64.wrap (a : Int) = ((a % 18446744073709551616 : Nat) : Int) := by rw [IntKind.wrap_u64]; omega
end Fx
set_option maxHeartbeats 1000000 in
theorem Mul64_nat (x y : Nat) (hx : x < 18446744073709551616) (hy : y < 18446744073709551616) (w : World) :
    Calls Try.prog 54 #[.int .u64 x, .int .u64 y] w fun e w' => e = .returned (.tuple #[.int .u64 ((x * y / 18446744073709551616 : Nat) : Int), .int .u64 ((x * y % 18446744073709551616 : Nat) : Int)]) ∧ w = w' := by
  obtain ⟨bd, bt, bw, hhi⟩ := Lib.mul64_hi x y hx hy
  have ba := Lib.half_mul_le (a := x / 4294967296) (b := y / 4294967296) (by omega) (by omega)
  have bb := Lib.half_mul_le (a := x / 4294967296) (b := y % 4294967296) (by omega) (by omega)
  have bc := Lib.half_mul_le (a := x % 4294967296) (b := y / 4294967296) (by omega) (by omega)
  have ba' : x / 4294967296 * (y / 4294967296) < 18446744073709551616 := by omega
  have bb' : x / 4294967296 * (y % 4294967296) < 18446744073709551616 := by omega
  have bc' : x % 4294967296 * (y / 4294967296) < 18446744073709551616 := by omega
  have bh1 : x / 4294967296 * (y / 4294967296) + (x / 4294967296 * (y % 4294967296) + x % 4294967296 * (y % 4294967296) / 4294967296) / 4294967296 < 18446744073709551616 := by omega
  have bh : x / 4294967296 * (y / 4294967296) + (x / 4294967296 * (y % 4294967296) + x % 4294967296 * (y % 4294967296) / 4294967296) / 4294967296 + ((x / 4294967296 * (y % 4294967296) + x % 4294967296 * (y % 4294967296) / 4294967296) % 4294967296 + x % 4294967296 * (y / 4294967296)) / 4294967296 < 18446744073709551616 := by omega
  go_enter Try.func54, Try.ntmps54
  go_wp2
  simp only [Fx.maskN x hx, Fx.maskN y hy, Fx.divN, Fx.mulN, Fx.addN, Fx.wrapN _ bd, Fx.wrapN _ bb', Fx.wrapN _ bt, Fx.maskN _ bt, Fx.wrapN _ bc', Fx.wrapN _ bw, Fx.wrapN _ ba', Fx.wrapN _ bh1, Fx.wrapN _ bh, Fx.wrapM]
  rw [hhi]
  go_ret2
  exact ⟨rfl, rfl⟩
theorem Mul64_any (x y : Int) (hx : 0 ≤ x) (hx' : x < 18446744073709551616) (hy : 0 ≤ y) (hy' : y < 18446744073709551616) (w : World) :
    Calls Try.prog 54 #[.int .u64 x, .int .u64 y] w fun e w' => e = .returned (.tuple #[.int .u64 (x * y / 18446744073709551616), .int .u64 (x * y % 18446744073709551616)]) ∧ w = w' := by
  obtain ⟨x, rfl⟩ := Int.eq_ofNat_of_zero_le hx
  obtain ⟨y, rfl⟩ := Int.eq_ofNat_of_zero_le hy
  have h := Mul64_nat x y (by omega) (by omega) w
  simpa using h

namespace Fx
def mul : Int → Int → Int × Int := two fun a b => fitsV (a * b)
/-- the product by sizes is the product -/
theorem signedV_mul (a b : Int) : signedV (abs a * abs b / 18446744073709551616) (abs a * abs b % 18446744073709551616) (!decide (a < 0) == decide (b < 0)) = fitsV (a * b) := by
  have key : ∀ p : Int, 0 ≤ p → ∀ m : Bool, signedV (p / 18446744073709551616) (p % 18446744073709551616) m = fitsV (if m then -p else p) := by
    intro p hp m
    by_cases h : p < 18446744073709551616
    · have e1 : p / 18446744073709551616 = 0 := by omega
      have e2 : p % 18446744073709551616 = p := by omega
      rw [e1, e2]
      by_cases hl : 1152921504606846976 < p
      · have : isF (if m then -p else p) = false := by cases m <;> simp [isF] <;> omega
        simp [signedV, hl, fitsV, this]
      · simp [signedV, hl]
    · have e1 : p / 18446744073709551616 ≠ 0 := by omega
      have : isF (if m then -p else p) = false := by cases m <;> simp [isF] <;> omega
      simp [signedV, e1, fitsV, this]
  have hp : 0 ≤ abs a * abs b := Int.mul_nonneg (by unfold abs; split <;> omega) (by unfold abs; split <;> omega)
  rw [key _ hp]
  congr 1
  unfold abs
  by_cases ha : a < 0 <;> by_cases hb : b < 0 <;> simp [ha, hb, Int.neg_mul, Int.mul_neg]
theorem abs_mul_nn (a b : Int) : 0 ≤ abs a * abs b / 18446744073709551616 ∧ 0 ≤ abs a * abs b % 18446744073709551616 := by
  have hp : 0 ≤ abs a * abs b := Int.mul_nonneg (by unfold abs; split <;> omega) (by unfold abs; split <;> omega)
  omega
end Fx
theorem Mul_any (a b : Int) (w : World) :
    Calls Try.prog 35 #[.int .i64 a, .int .i64 b] w fun e w' => e = .returned (Fx.R (Fx.mul a b)) ∧ Below w.heap.size w w' := by
  cases hab : Fx.isF a && Fx.isF b
  · have e1 := Lib.hid (Fx.two_bad (f := fun a b => Fx.fitsV (a * b)) hab)
    go_enter Try.func35, Try.ntmps35
    go_wp2_with (go_at_call 47; refine (all_two_bad a b _ _ hab (by simp [go_sem]) (by simp [go_sem])).mono ?_; rintro e w' ⟨rfl, rfl⟩)
    go_ret2
    exact ⟨Fx.R_mk e1.out, (Below.refl _ _).alloc (Nat.le_refl _) _⟩
  · obtain ⟨ha, hb⟩ : Fx.isF a = true ∧ Fx.isF b = true := by simpa using hab
    have ba := Fx.isF_bd ha
    have bb := Fx.isF_bd hb
    have e1 := Lib.hid ((Fx.signedV_mul a b).trans (Fx.two_ok (f := fun a b => Fx.fitsV (a * b)) ha hb).symm)
    clear hab
    obtain ⟨n1, n2⟩ := Fx.abs_mul_nn a b
    have a1 := Fx.abs_bd (a := a) (by omega)
    have b1 := Fx.abs_bd (a := b) (by omega)
    go_enter Try.func35, Try.ntmps35
    go_wp2_with (go_at_call 47; refine (all_two_ok a b _ _ ha hb (by simp [go_sem]) (by simp [go_sem])).mono ?_; rintro e w' ⟨rfl, rfl⟩)
    refine (size_any a _ (by omega)).mono ?_; rintro e w' ⟨rfl, rfl⟩
    go_wp2_with fail
    refine (size_any b _ (by omega)).mono ?_; rintro e w' ⟨rfl, rfl⟩
    go_wp2_with fail
    refine (Mul64_any _ _ (by omega) (by omega) (by omega) (by omega) _).mono ?_; rintro e w' ⟨rfl, rfl⟩
    go_wp2_with fail
    refine (signed_any _ _ _ _ n1 n2).mono ?_; rintro e w' ⟨rfl, rfl⟩; unfold Fx.R
    go_wp2
    go_ret2
    exact ⟨Fx.R_mk e1.out.symm, (Below.refl _ _).alloc (Nat.le_refl _) _⟩

namespace Fx
def gcd : Int → Int → Int × Int := two fun a b => fitsV (Int.gcd a b)
theorem signedV_gcd (a b : Int) (n : Nat) (h : (n : Int) = Int.gcd a b) (hb : n ≤ 1152921504606846976) : signedV 0 n false = fitsV (Int.gcd a b) := by
  rw [← h]
  exact if_neg (by omega)
theorem abs_nat (a : Int) : abs a = (a.natAbs : Int) := by unfold abs; split <;> omega
end Fx
theorem Gcd_any (a b : Int) (w : World) :
    Calls Try.prog 26 #[.int .i64 a, .int .i64 b] w fun e w' => e = .returned (Fx.R (Fx.gcd a b)) ∧ Below w.heap.size w w' := by
  cases hab : Fx.isF a && Fx.isF b
  · have e1 := Lib.hid (Fx.two_bad (f := fun a b => Fx.fitsV (Int.gcd a b)) hab)
    go_enter Try.func26, Try.ntmps26
    go_wp2_with (go_at_call 47; refine (all_two_bad a b _ _ hab (by simp [go_sem]) (by simp [go_sem])).mono ?_; rintro e w' ⟨rfl, rfl⟩)
    go_ret2
    exact ⟨Fx.R_mk e1.out, (Below.refl _ _).alloc (Nat.le_refl _) _⟩
  · obtain ⟨ha, hb⟩ : Fx.isF a = true ∧ Fx.isF b = true := by simpa using hab
    have ba := Fx.isF_bd ha
    have bb := Fx.isF_bd hb
    have e1 := Lib.hid (Fx.two_ok (f := fun a b => Fx.fitsV (Int.gcd a b)) ha hb).symm
    clear hab
    have a1 : a.natAbs ≤ 1152921504606846976 := by omega
    have b1 : b.natAbs ≤ 1152921504606846976 := by omega
    go_enter Try.func26, Try.ntmps26
    go_wp2_with (go_at_call 47; refine (all_two_ok a b _ _ ha hb (by simp [go_sem]) (by simp [go_sem])).mono ?_; rintro e w' ⟨rfl, rfl⟩)
    refine (size_any a _ (by omega)).mono ?_; rintro e w' ⟨rfl, rfl⟩; rw [Fx.abs_nat]
    go_wp2_with fail
    refine (size_any b _ (by omega)).mono ?_; rintro e w' ⟨rfl, rfl⟩; rw [Fx.abs_nat]
    go_wp2_with fail
    go_loopw [7, 8] (fun x y wr => ∃ m n : Nat, x = .int .u64 m ∧ y = .int .u64 n ∧ m ≤ 1152921504606846976 ∧ n ≤ 1152921504606846976 ∧ Hid (Nat.gcd m n = Int.gcd a b) ∧ Below w.heap.size w wr) (fun _ y _ => (intOf y).toNat)
    case atStart => exact ⟨_, _, rfl, rfl, a1, b1, rfl, (Below.refl _ _).alloc (Nat.le_refl _) _⟩
    case round =>
      obtain ⟨m, n, rfl, rfl, hm, hn, hg, hbl⟩ := hrel
      by_cases h0 : 0 < n
      · have hz : (1 : Int) ≤ (n : Int) := by omega
        have hmod : m % n < n := Nat.mod_lt _ h0
        go_wp2
        go_quiet (fail)
        go_wp2
        go_roundw
        case rel => exact ⟨n, m % n, rfl, rfl, hn, by omega, by
          unfold Hid at hg ⊢
          rw [Nat.gcd_comm, ← Nat.gcd_rec, Nat.gcd_comm]; exact hg, below_drewN hbl _⟩
        case measure => simp [intOf]; omega
      · have hz : n = 0 := by omega
        subst hz
        have hgg : Hid (Fx.signedV 0 m false = Fx.two (fun a b => Fx.fitsV (Int.gcd a b)) a b) := by
          unfold Hid at hg e1 ⊢
          rw [← e1, Fx.signedV_gcd a b m (by rw [← hg]; simp) hm]
        clear hg e1
        go_wp2_with (go_at_call 50; refine (signed_any _ _ _ _ (by omega) (by omega)).mono ?_; rintro e w' ⟨rfl, rfl⟩; unfold Fx.R)
        go_ret2
        exact ⟨Fx.R_mk hgg.out.symm, hbl⟩
end Go.Proofs.Ytdiadoahcaoinaa
