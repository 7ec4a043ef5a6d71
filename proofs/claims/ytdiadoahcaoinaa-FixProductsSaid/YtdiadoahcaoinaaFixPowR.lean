/-
  The walks of shuttleref01.Pow; of both Sqrt; of Sum and Prod.
-/
import Derived.Test.YtdiadoahcaoinaaFixPow
import Derived.Laws.BitsAllLaws
import Derived.Laws.BitsLemmas
namespace Go.Proofs.Ytdiadoahcaoinaa
open Go.RowKit

/-- the reference's loop: n rounds from 1 -/
def Fx.powN (a : Int) (n : Nat) : Int × Int := Fx.fitsV (a ^ n)
theorem rPow_00 (w : World) :
    Calls Try.prog 42 #[.int .i64 0, .int .i64 0] w fun e w' => e = .returned (Fx.R (Fx.pow 0 0)) ∧ Below w.heap.size w w' := by
  have e4 : Fx.pow 0 0 = (1, 0) := by decide
  rw [e4]
  have i0 : Fx.isF 0 = true := by decide
  have b0 := Fx.abs_bd (a := 0) (by omega)
  have b1 : Fx.abs 0 ≤ 1 := by decide
  go_enter Try.func42, Try.ntmps42
  go_wp2_with (first | (go_at_call 24; refine (rIn_any _ _).mono ?_; rintro e w' ⟨rfl, rfl⟩) | (go_at_call 51; refine (rabs_any 0 _ (by omega)).mono ?_; rintro e w' ⟨rfl, rfl⟩))
  go_loop [6, 7, 8, 9] (fun x i _ _ => i = .int .i64 0 ∧ x = .int .i64 1) (fun _ _ _ _ => 0)
  case atStart => exact ⟨rfl, rfl⟩
  case round =>
    obtain ⟨rfl, rfl⟩ := hrel
    go_wp2
    go_ret2
    exact ⟨rfl, Below.refl _ _⟩
set_option maxHeartbeats 1000000 in
theorem rPow_any (a n : Int) (w : World) :
    Calls Try.prog 42 #[.int .i64 a, .int .i64 n] w fun e w' => e = .returned (Fx.R (Fx.pow a n)) ∧ Below w.heap.size w w' := by
  cases ha : Fx.isF a
  · have e1 := Lib.hid (Fx.two_bad (f := fun a b => if b < 0 then (0, 1) else Fx.fitsV (a ^ b.toNat)) (show (Fx.isF a && Fx.isF n) = false by simp [ha]))
    go_enter Try.func42, Try.ntmps42
    go_wp2_with (go_at_call 24; refine (rIn_any _ _).mono ?_; rintro e w' ⟨rfl, rfl⟩)
    go_ret2
    exact ⟨Fx.R_mk e1.out, Below.refl _ _⟩
  cases hb : Fx.isF n
  · have e1 := Lib.hid (Fx.two_bad (f := fun a b => if b < 0 then (0, 1) else Fx.fitsV (a ^ b.toNat)) (show (Fx.isF a && Fx.isF n) = false by simp [hb]))
    go_enter Try.func42, Try.ntmps42
    go_wp2_with (go_at_call 24; refine (rIn_any _ _).mono ?_; rintro e w' ⟨rfl, rfl⟩)
    go_ret2
    exact ⟨Fx.R_mk e1.out, Below.refl _ _⟩
  have ba := Fx.isF_bd ha
  have bn := Fx.isF_bd hb
  have e1 := Lib.hid (Fx.two_ok (f := fun a b => if b < 0 then (0, 1) else Fx.fitsV (a ^ b.toNat)) ha hb)
  by_cases hn : n < 0
  · go_enter Try.func42, Try.ntmps42
    go_wp2_with (go_at_call 24; refine (rIn_any _ _).mono ?_; rintro e w' ⟨rfl, rfl⟩)
    go_ret2
    exact ⟨Fx.R_mk (e1.out.trans (if_pos hn)), Below.refl _ _⟩
  obtain ⟨n, rfl⟩ := Int.eq_ofNat_of_zero_le (Int.not_lt.1 hn)
  have e2 : Hid (Fx.two (fun a b => if b < 0 then (0, 1) else Fx.fitsV (a ^ b.toNat)) a n = Fx.fitsV (a ^ n)) := e1.out.trans ((if_neg hn).trans (by rw [Int.toNat_natCast]))
  clear e1
  have habs := Fx.abs_bd (a := a) (by omega)
  have hnat : Fx.abs a = a.natAbs := Fx.abs_nat a
  by_cases h00 : a = 0 ∧ 0 < n
  · obtain ⟨rfl, hn0⟩ := h00
    have e3 : Hid (Fx.two (fun a b => if b < 0 then (0, 1) else Fx.fitsV (a ^ b.toNat)) 0 n = (0, 0)) := e2.out.trans (by rw [Int.zero_pow (by omega)]; rfl)
    clear hnat
    go_enter Try.func42, Try.ntmps42
    go_wp2_with (first | (go_at_call 24; refine (rIn_any _ _).mono ?_; rintro e w' ⟨rfl, rfl⟩) | (go_at_call 51; refine (rabs_any a _ (by omega)).mono ?_; rintro e w' ⟨rfl, rfl⟩))
    go_ret2
    exact ⟨Fx.R_mk e3.out, Below.refl _ _⟩
  have key : ∃ m : Nat, Hid (a ^ n = a ^ m) ∧ m ≤ n ∧ ((1 < Fx.abs a ∧ m = n) ∨ (Fx.abs a ≤ 1 ∧ ((n : Int) % 2) = (m : Int))) := by
    by_cases h1 : 1 < Fx.abs a
    · exact ⟨n, rfl, Nat.le_refl _, .inl ⟨h1, rfl⟩⟩
    · exact ⟨n % 2, Fx.pow_mod a n (by omega) (by omega), Nat.mod_le _ _, .inr ⟨by omega, by omega⟩⟩
  obtain ⟨m, hm, hmn, hc⟩ := key
  have e3 : Hid (Fx.two (fun a b => if b < 0 then (0, 1) else Fx.fitsV (a ^ b.toNat)) a n = Fx.fitsV (a ^ m)) := e2.out.trans (by rw [hm.out])
  clear e2 hm hnat
  have ha0 : (a == 0) = false ∨ a = 0 := by by_cases h : a = 0 <;> simp [h]
  rcases hc with ⟨h1, rfl⟩ | ⟨h1, h2⟩
  · have ha0 : (a == 0) = false := by
      rcases ha0 with h | rfl
      · exact h
      · exact absurd h1 (by decide)
    clear h00
    go_enter Try.func42, Try.ntmps42
    go_wp2_with (first | (go_at_call 24; refine (rIn_any _ _).mono ?_; rintro e w' ⟨rfl, rfl⟩) | (go_at_call 51; refine (rabs_any a _ (by omega)).mono ?_; rintro e w' ⟨rfl, rfl⟩))
    go_loopw [6, 7, 8, 9] (fun x i _ _ wr => ∃ (k : Nat) (v : Int), k ≤ m ∧ i = .int .i64 k ∧ x = .int .i64 v ∧ Hid (v = a ^ k) ∧ Fx.isF v = true ∧ Below w.heap.size w wr) (fun _ i _ _ _ => m - (intOf i).toNat)
    case atStart => exact ⟨0, 1, Nat.zero_le _, rfl, rfl, (Int.pow_zero a).symm, by decide, Below.refl _ _⟩
    case round =>
      obtain ⟨k, v, hk, rfl, rfl, hv, hF, hbl⟩ := hrel
      by_cases hlt : k < m
      · have hs : a ^ (k + 1) = v * a := by rw [hv.out, Int.pow_succ]
        cases hF2 : Fx.isF (v * a)
        · have e4 : Hid (Fx.two (fun a b => if b < 0 then (0, 1) else Fx.fitsV (a ^ b.toNat)) a m = (0, 10)) := e3.out.trans (Fx.fitsV_no (Fx.isF_pow_lt a (n := k + 1) (by omega) (by rw [hs]; exact hF2)))
          clear hs
          go_wp2_with (go_at_call 40; refine (rMul_no v a _ hF ha hF2).mono ?_; rintro e w' ⟨rfl, hb2⟩)
          go_ret2
          exact ⟨Fx.R_mk e4.out, bchain hbl hb2⟩
        · have HS := Lib.hid hs
          clear hs
          go_wp2_with (go_at_call 40; refine (rMul_ok v a _ hF ha hF2).mono ?_; rintro e w' ⟨rfl, hb2⟩)
          go_roundw
          case rel => exact ⟨k + 1, v * a, by omega, by go_num, rfl, HS.out.symm, hF2, bchain hbl hb2⟩
          case measure => simp [intOf]; omega
      · have hkn : k = m := by omega
        have e4 : Hid (Fx.two (fun a b => if b < 0 then (0, 1) else Fx.fitsV (a ^ b.toNat)) a m = (v, 0)) := e3.out.trans (by rw [← hkn, ← hv.out]; exact Fx.fitsV_ok hF)
        clear hkn
        go_wp2
        go_ret2
        exact ⟨Fx.R_mk e4.out, hbl⟩
  · rcases ha0 with ha0 | rfl
    · obtain rfl : m = n % 2 := by omega
      clear h00 h2
      go_enter Try.func42, Try.ntmps42
      go_wp2_with (first | (go_at_call 24; refine (rIn_any _ _).mono ?_; rintro e w' ⟨rfl, rfl⟩) | (go_at_call 51; refine (rabs_any a _ (by omega)).mono ?_; rintro e w' ⟨rfl, rfl⟩))
      go_loopw [6, 7, 8, 9] (fun x i _ _ wr => ∃ (k : Nat) (v : Int), k ≤ n % 2 ∧ i = .int .i64 k ∧ x = .int .i64 v ∧ Hid (v = a ^ k) ∧ Fx.isF v = true ∧ Below w.heap.size w wr) (fun _ i _ _ _ => n % 2 - (intOf i).toNat)
      case atStart => exact ⟨0, 1, Nat.zero_le _, rfl, rfl, (Int.pow_zero a).symm, by decide, Below.refl _ _⟩
      case round =>
        obtain ⟨k, v, hk, rfl, rfl, hv, hF, hbl⟩ := hrel
        by_cases hlt : k < n % 2
        · have hs : a ^ (k + 1) = v * a := by rw [hv.out, Int.pow_succ]
          cases hF2 : Fx.isF (v * a)
          · have e4 : Hid (Fx.two (fun a b => if b < 0 then (0, 1) else Fx.fitsV (a ^ b.toNat)) a n = (0, 10)) := e3.out.trans (Fx.fitsV_no (Fx.isF_pow_lt a (n := k + 1) (by omega) (by rw [hs]; exact hF2)))
            clear hs
            go_wp2_with (go_at_call 40; refine (rMul_no v a _ hF ha hF2).mono ?_; rintro e w' ⟨rfl, hb2⟩)
            go_ret2
            exact ⟨Fx.R_mk e4.out, bchain hbl hb2⟩
          · have HS := Lib.hid hs
            clear hs
            go_wp2_with (go_at_call 40; refine (rMul_ok v a _ hF ha hF2).mono ?_; rintro e w' ⟨rfl, hb2⟩)
            go_roundw
            case rel => exact ⟨k + 1, v * a, by omega, by go_num, rfl, HS.out.symm, hF2, bchain hbl hb2⟩
            case measure => simp [intOf]; omega
        · have hkn : k = n % 2 := by omega
          have e4 : Hid (Fx.two (fun a b => if b < 0 then (0, 1) else Fx.fitsV (a ^ b.toNat)) a n = (v, 0)) := e3.out.trans (by rw [← hkn, ← hv.out]; exact Fx.fitsV_ok hF)
          clear hkn
          go_wp2
          go_ret2
          exact ⟨Fx.R_mk e4.out, hbl⟩
    · obtain rfl : n = 0 := by omega
      obtain rfl : m = 0 := by omega
      exact rPow_00 w
end Go.Proofs.Ytdiadoahcaoinaa
