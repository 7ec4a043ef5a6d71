/-
  The walks of Pow, Sqrt, Sum, Prod of the package fix and of shuttleref01.
-/
import Derived.Test.YtdiadoahcaoinaaFixPlain
import Derived.Test.YtdiadoahcaoinaaFixRef
namespace Go.Proofs.Ytdiadoahcaoinaa
open Go.RowKit

theorem Mul_ok (a b : Int) (w : World) (ha : Fx.isF a = true) (hb : Fx.isF b = true) (h : Fx.isF (a * b) = true) :
    Calls Try.prog 35 #[.int .i64 a, .int .i64 b] w fun e w' => e = .returned (.tuple #[.int .i64 (a * b), .int .i64 0]) ∧ Below w.heap.size w w' := by
  have e : Fx.mul a b = (a * b, 0) := by simp [Fx.mul, Fx.two, ha, hb, Fx.fitsV, h]
  have := Mul_any a b w
  rw [e] at this
  exact this
theorem Mul_no (a b : Int) (w : World) (ha : Fx.isF a = true) (hb : Fx.isF b = true) (h : Fx.isF (a * b) = false) :
    Calls Try.prog 35 #[.int .i64 a, .int .i64 b] w fun e w' => e = .returned (.tuple #[.int .i64 0, .int .i64 10]) ∧ Below w.heap.size w w' := by
  have e : Fx.mul a b = (0, 10) := by simp [Fx.mul, Fx.two, ha, hb, Fx.fitsV, h]
  have := Mul_any a b w
  rw [e] at this
  exact this
theorem rMul_ok (a b : Int) (w : World) (ha : Fx.isF a = true) (hb : Fx.isF b = true) (h : Fx.isF (a * b) = true) :
    Calls Try.prog 40 #[.int .i64 a, .int .i64 b] w fun e w' => e = .returned (.tuple #[.int .i64 (a * b), .int .i64 0]) ∧ Below w.heap.size w w' := by
  have e : Fx.mul a b = (a * b, 0) := by simp [Fx.mul, Fx.two, ha, hb, Fx.fitsV, h]
  have := rMul_any a b w
  rw [e] at this
  exact this
theorem rMul_no (a b : Int) (w : World) (ha : Fx.isF a = true) (hb : Fx.isF b = true) (h : Fx.isF (a * b) = false) :
    Calls Try.prog 40 #[.int .i64 a, .int .i64 b] w fun e w' => e = .returned (.tuple #[.int .i64 0, .int .i64 10]) ∧ Below w.heap.size w w' := by
  have e : Fx.mul a b = (0, 10) := by simp [Fx.mul, Fx.two, ha, hb, Fx.fitsV, h]
  have := rMul_any a b w
  rw [e] at this
  exact this

set_option maxHeartbeats 1000000 in
theorem Pow_any (a n : Int) (w : World) :
    Calls Try.prog 41 #[.int .i64 a, .int .i64 n] w fun e w' => e = .returned (Fx.R (Fx.pow a n)) ∧ Below w.heap.size w w' := by
  cases hab : Fx.isF a && Fx.isF n
  · have e1 := Lib.hid (Fx.two_bad (f := fun a b => if b < 0 then (0, 1) else Fx.fitsV (a ^ b.toNat)) hab)
    go_enter Try.func41, Try.ntmps41
    go_wp2_with (go_at_call 47; refine (all_two_bad a n _ _ hab (by simp [go_sem]) (by simp [go_sem])).mono ?_; rintro e w' ⟨rfl, rfl⟩)
    go_ret2
    exact ⟨Fx.R_mk e1.out, (Below.refl _ _).alloc (Nat.le_refl _) _⟩
  obtain ⟨ha, hb⟩ : Fx.isF a = true ∧ Fx.isF n = true := by simpa using hab
  clear hab
  have ba := Fx.isF_bd ha
  have bn := Fx.isF_bd hb
  have e1 := Lib.hid (Fx.two_ok (f := fun a b => if b < 0 then (0, 1) else Fx.fitsV (a ^ b.toNat)) ha hb)
  by_cases hn : n < 0
  · go_enter Try.func41, Try.ntmps41
    go_wp2_with (go_at_call 47; refine (all_two_ok a n _ _ ha hb (by simp [go_sem]) (by simp [go_sem])).mono ?_; rintro e w' ⟨rfl, rfl⟩)
    go_ret2
    exact ⟨Fx.R_mk (e1.out.trans (if_pos hn)), (Below.refl _ _).alloc (Nat.le_refl _) _⟩
  by_cases hn0 : n = 0
  · subst hn0
    have e3 : Hid (Fx.two (fun a b => if b < 0 then (0, 1) else Fx.fitsV (a ^ b.toNat)) a 0 = (1, 0)) := e1.out.trans ((if_neg hn).trans (by rw [show (0 : Int).toNat = 0 from rfl, Int.pow_zero]; rfl))
    have habs := Fx.abs_bd (a := a) (by omega)
    by_cases h1 : 1 < Fx.abs a
    · go_enter Try.func41, Try.ntmps41
      go_wp2_with (first | (go_at_call 47; refine (all_two_ok a 0 _ _ ha hb (by simp [go_sem]) (by simp [go_sem])).mono ?_; rintro e w' ⟨rfl, rfl⟩) | (go_at_call 49; refine (size_any a _ (by omega)).mono ?_; rintro e w' ⟨rfl, rfl⟩))
      go_ret2
      exact ⟨Fx.R_mk e3.out, (Below.refl _ _).alloc (Nat.le_refl _) _⟩
    · go_enter Try.func41, Try.ntmps41
      go_wp2_with (first | (go_at_call 47; refine (all_two_ok a 0 _ _ ha hb (by simp [go_sem]) (by simp [go_sem])).mono ?_; rintro e w' ⟨rfl, rfl⟩) | (go_at_call 49; refine (size_any a _ (by omega)).mono ?_; rintro e w' ⟨rfl, rfl⟩))
      go_ret2
      exact ⟨Fx.R_mk e3.out, (Below.refl _ _).alloc (Nat.le_refl _) _⟩
  obtain ⟨n, rfl⟩ := Int.eq_ofNat_of_zero_le (Int.not_lt.1 hn)
  have e2 : Hid (Fx.two (fun a b => if b < 0 then (0, 1) else Fx.fitsV (a ^ b.toNat)) a n = Fx.fitsV (a ^ n)) := e1.out.trans ((if_neg hn).trans (by rw [Int.toNat_natCast]))
  clear e1
  have habs := Fx.abs_bd (a := a) (by omega)
  have hnat : Fx.abs a = a.natAbs := Fx.abs_nat a
  by_cases h1 : 1 < Fx.abs a
  · by_cases h60 : 60 < n
    · have e3 := Lib.hid (e2.out.trans (Fx.pow_big a n (by omega) h60))
      clear hnat
      go_enter Try.func41, Try.ntmps41
      go_wp2_with (first | (go_at_call 47; refine (all_two_ok a n _ _ ha hb (by simp [go_sem]) (by simp [go_sem])).mono ?_; rintro e w' ⟨rfl, rfl⟩) | (go_at_call 49; refine (size_any a _ (by omega)).mono ?_; rintro e w' ⟨rfl, rfl⟩))
      go_ret2
      exact ⟨Fx.R_mk e3.out, (Below.refl _ _).alloc (Nat.le_refl _) _⟩
    · have hz : ((n : Int) == 0) = false := by simp; omega
      clear hnat
      go_enter Try.func41, Try.ntmps41
      go_wp2_with (first | (go_at_call 47; refine (all_two_ok a n _ _ ha hb (by simp [go_sem]) (by simp [go_sem])).mono ?_; rintro e w' ⟨rfl, rfl⟩) | (go_at_call 49; refine (size_any a _ (by omega)).mono ?_; rintro e w' ⟨rfl, rfl⟩))
      go_loopw [7, 8, 9, 47] (fun x _ _ i wr => ∃ (k : Nat) (v : Int), k ≤ n ∧ i = .int .i64 k ∧ x = .int .i64 v ∧ Hid (v = a ^ k) ∧ Fx.isF v = true ∧ Below w.heap.size w wr) (fun _ _ _ i _ => n - (intOf i).toNat)
      case atStart => exact ⟨0, 1, Nat.zero_le _, rfl, rfl, (Int.pow_zero a).symm, by decide, (Below.refl _ _).alloc (Nat.le_refl _) _⟩
      case round =>
        obtain ⟨k, v, hk, rfl, rfl, hv, hF, hbl⟩ := hrel
        by_cases hlt : k < n
        · have hs : a ^ (k + 1) = v * a := by rw [hv.out, Int.pow_succ]
          cases hF2 : Fx.isF (v * a)
          · have e3 : Hid (Fx.two (fun a b => if b < 0 then (0, 1) else Fx.fitsV (a ^ b.toNat)) a n = (0, 10)) := e2.out.trans (Fx.fitsV_no (Fx.isF_pow_lt a (n := k + 1) (by omega) (by rw [hs]; exact hF2)))
            clear hs
            go_wp2_with (go_at_call 35; refine (Mul_no v a _ hF ha hF2).mono ?_; rintro e w' ⟨rfl, hb2⟩)
            go_ret2
            exact ⟨Fx.R_mk e3.out, bchain hbl hb2⟩
          · have HS := Lib.hid hs
            clear hs
            go_wp2_with (go_at_call 35; refine (Mul_ok v a _ hF ha hF2).mono ?_; rintro e w' ⟨rfl, hb2⟩)
            go_roundw
            case rel => exact ⟨k + 1, v * a, by omega, by go_num, rfl, HS.out.symm, hF2, bchain hbl hb2⟩
            case measure => simp [intOf]; omega
        · have hkn : k = n := by omega
          have e3 : Hid (Fx.two (fun a b => if b < 0 then (0, 1) else Fx.fitsV (a ^ b.toNat)) a n = (v, 0)) := e2.out.trans (by rw [← hkn, ← hv.out]; exact Fx.fitsV_ok hF)
          clear hkn
          go_wp2
          go_ret2
          exact ⟨Fx.R_mk e3.out, hbl⟩
  · have hn1 : a.natAbs ≤ 1 := by omega
    clear hnat
    have h0 : n ≠ 0 := by omega
    have hz : ((n : Int) == 0) = false := by simp [h0]
    by_cases h2 : n % 2 = 0
    · have e3 : Hid (Fx.two (fun a b => if b < 0 then (0, 1) else Fx.fitsV (a ^ b.toNat)) a n = (a * a, 0)) := e2.out.trans (by rw [Fx.fitsV_ok (Fx.pow_small a n hn1), Fx.pow_even a n hn1 h2 h0])
      have hm : ((n : Int) % 2 == 0) = true := by simp; omega
      have hsq : 0 ≤ a * a ∧ a * a ≤ 1 := by obtain h | h | h : a = 0 ∨ a = 1 ∨ a = -1 := by omega
                                             all_goals (subst h; decide)
      clear h2 h0 e2
      go_enter Try.func41, Try.ntmps41
      go_wp2_with (first | (go_at_call 47; refine (all_two_ok a n _ _ ha hb (by simp [go_sem]) (by simp [go_sem])).mono ?_; rintro e w' ⟨rfl, rfl⟩) | (go_at_call 49; refine (size_any a _ (by omega)).mono ?_; rintro e w' ⟨rfl, rfl⟩))
      go_ret2
      exact ⟨Fx.R_mk e3.out, (Below.refl _ _).alloc (Nat.le_refl _) _⟩
    · have e3 : Hid (Fx.two (fun a b => if b < 0 then (0, 1) else Fx.fitsV (a ^ b.toNat)) a n = (a, 0)) := e2.out.trans (by rw [Fx.fitsV_ok (Fx.pow_small a n hn1), Fx.pow_odd a n hn1 (by omega)])
      have hm : ((n : Int) % 2 == 0) = false := by simp; omega
      clear h2 h0 e2
      go_enter Try.func41, Try.ntmps41
      go_wp2_with (first | (go_at_call 47; refine (all_two_ok a n _ _ ha hb (by simp [go_sem]) (by simp [go_sem])).mono ?_; rintro e w' ⟨rfl, rfl⟩) | (go_at_call 49; refine (size_any a _ (by omega)).mono ?_; rintro e w' ⟨rfl, rfl⟩))
      go_ret2
      exact ⟨Fx.R_mk e3.out, (Below.refl _ _).alloc (Nat.le_refl _) _⟩
end Go.Proofs.Ytdiadoahcaoinaa
