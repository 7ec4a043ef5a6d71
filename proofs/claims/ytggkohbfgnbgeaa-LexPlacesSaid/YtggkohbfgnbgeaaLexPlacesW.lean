/-
  The walks of Place and of the reference's Place.
-/
import Derived.Test.YtggkohbfgnbgeaaLexPlacesP
import Derived.Test.YtggkohbfgnbgeaaFixPlain
import Derived.Deep.QuietTactic
import Derived.BigQuiet
import Derived.WalkSpells
import Derived.WalkLawsBesides
import Derived.Lib.Hide
import Derived.Lib.QuietBelow
namespace Go.Proofs.Ytggkohbfgnbgeaa
open Go.RowKit Go.Sort
theorem run_CountString (s : ByteArray) (w : World) :
    (callFunc 53 #[.string s, .int .u8 10]).run Try.prog w = .ok (.value (.int .i64 (Lib.countByte s.data.toList 10))) w := by
  have h := Lib.run_countString (P := Try.prog) s 10 w
  rw [run_callFunc_extern Try.func53 (by kernel_rfl) (by kernel_rfl) (by kernel_rfl) (e := Extern.BytealgCount.count) (by kernel_rfl), h]
  rfl
set_option maxRecDepth 100000 in
theorem Count_any (s : ByteArray) (w : World) :
    Calls Try.prog 30 #[.string s, .string ⟨#[10]⟩] w fun e w' => e = .returned (.int .i64 (Lib.countByte s.data.toList 10)) ∧ w = w' := by
  have h : (callFunc 53 #[.string s, .int .u8 (((⟨#[10]⟩ : ByteArray)[0]'(by decide)).toNat : Int)]).run Try.prog w = _ := run_CountString s w
  go_enter Try.func30, Try.ntmps30
  go_wp2
  go_ret
  exact ⟨rfl, rfl⟩
theorem Lx.byteBang (s : ByteArray) (j : Nat) (hj : j < s.size) : s.data[j]! = s[j] := by
  rw [getElem!_pos s.data j (by simpa using hj)]; rfl
set_option maxRecDepth 100000 in
theorem LastIndexByteString_any (s : ByteArray) (w : World) (hs : s.size ≤ 100000) :
    Calls Try.prog 55 #[.string s, .int .u8 10] w fun e w' => e = .returned (.int .i64 (Lib.lastIndexByte s 10)) ∧ w = w' := by
  go_enter Try.func55, Try.ntmps55
  go_wp2
  go_loop [5] (fun vi => ∃ k : Nat, k ≤ s.size ∧ vi = .int .i64 ((k : Int) - 1) ∧ Hid (Lib.lastIndexByte s 10 = Lib.lastIdx s 10 k)) (fun vi => ((RowKit.intOf vi) + 1).toNat)
  case atStart => exact ⟨s.size, Nat.le_refl _, by first | rfl | go_num | (congr 1; omega), rfl⟩
  case round =>
    obtain ⟨k, hk, rfl, hh⟩ := hrel
    go_wp2
    · have hc : (((s[k - 1]).toNat : Int) == 10) = true := by assumption
      have k1 : 1 ≤ k := by omega
      have e1 : Lib.lastIdx s 10 k = ((k - 1 : Nat) : Int) := by
        have := Lib.lastIdx_hit s 10 (k - 1) (by rw [Lx.byteBang s (k - 1) (by omega)]; simpa using hc)
        rwa [show k - 1 + 1 = k by omega] at this
      have e2 : ((k - 1 : Nat) : Int) = (k : Int) - 1 := by omega
      go_ret
      rw [hh.out, e1, e2]
      exact ⟨rfl, rfl⟩
    · have hc : (((s[k - 1]).toNat : Int) == 10) = false := by assumption
      have k1 : 1 ≤ k := by omega
      have e1 : Lib.lastIdx s 10 k = Lib.lastIdx s 10 (k - 1) := by
        have := Lib.lastIdx_miss s 10 (k - 1) (by rw [Lx.byteBang s (k - 1) (by omega)]; simpa using hc)
        rwa [show k - 1 + 1 = k by omega] at this
      refine ⟨⟨k - 1, by omega, by congr 1; omega, hh.out.trans e1⟩, ?_⟩
      simp [RowKit.intOf]; omega
    · have k0 : k = 0 := by omega
      subst k0
      go_ret
      rw [hh.out]
      exact ⟨rfl, rfl⟩
set_option maxRecDepth 100000 in
theorem LastIndexByte_any (s : ByteArray) (w : World) (hs : s.size ≤ 100000) :
    Calls Try.prog 31 #[.string s, .int .u8 10] w fun e w' => e = .returned (.int .i64 (Lib.lastIndexByte s 10)) ∧ w = w' := by
  go_enter Try.func31, Try.ntmps31
  go_wp2_with (go_at_call 55; refine (LastIndexByteString_any _ _ hs).mono ?_; rintro e w' ⟨rfl, rfl⟩)
  go_ret
  exact ⟨rfl, rfl⟩
namespace Lx
/-- a place of a text, brought within it -/
def clamp (s : ByteArray) (a : Int) : Nat := if a < 0 then 0 else if (s.size : Int) < a then s.size else a.toNat
def PlaceV (s : ByteArray) (a : Int) : Value := .tuple #[.int .i64 (place (s.data.toList.take (clamp s a))).1, .int .i64 (place (s.data.toList.take (clamp s a))).2]
end Lx
theorem Lx.take_ext (s : ByteArray) (n : Nat) : (s.extract 0 n).data.toList = s.data.toList.take n := by rw [Lib.extract_data]; simp
theorem Lx.count_bd (d : ByteArray) : 0 ≤ (Lib.countByte d.data.toList 10 : Int) ∧ (Lib.countByte d.data.toList 10 : Int) ≤ d.size := by
  have := List.count_le_length (a := (10 : UInt8)) (l := d.data.toList)
  rw [Fx.size_toList] at this
  unfold Lib.countByte
  omega
theorem Lx.last_bd (d : ByteArray) : -1 ≤ Lib.lastIndexByte d 10 ∧ Lib.lastIndexByte d 10 ≤ d.size := by
  rcases Lib.lastIndexByte_spec d 10 with ⟨h, _⟩ | ⟨i, h1, h2, _⟩ <;> omega
theorem Lx.place_fin (s d : ByteArray) (a : Int) (hd : d.data.toList = s.data.toList.take (Lx.clamp s a)) : Ending.returned (.tuple #[.int .i64 ((Lib.countByte d.data.toList 10 : Int) + 1), .int .i64 ((d.size : Int) - Lib.lastIndexByte d 10)]) = Ending.returned (Lx.PlaceV s a) := by
  unfold Lx.PlaceV
  rw [← hd, (Lx.place_all d).1, (Lx.place_all d).2]
set_option maxRecDepth 100000 in
theorem Place_any (s : ByteArray) (a : Int) (w : World) (hs : s.size ≤ 100000) (ha : -9223372036854775808 ≤ a ∧ a ≤ 9223372036854775807) :
    Calls Try.prog 16 #[.string s, .int .i64 a] w fun e w' => e = .returned (Lx.PlaceV s a) ∧ w = w' := by
  by_cases h1 : a < 0
  · have HF := Lib.hid (Lx.place_fin s ⟨#[]⟩ a (by unfold Lx.clamp; rw [if_pos h1]; simp))
    have b1 := Lx.count_bd ⟨#[]⟩
    have b2 := Lx.last_bd ⟨#[]⟩
    have b3 : (⟨#[]⟩ : ByteArray).size ≤ 100000 := by decide
    go_enter Try.func16, Try.ntmps16
    go_wp2_with fail
    refine (Count_any _ _).mono ?_
    rintro e w' ⟨rfl, rfl⟩
    go_wp2_with fail
    refine (LastIndexByte_any _ _ b3).mono ?_
    rintro e w' ⟨rfl, rfl⟩
    go_wp2
    go_ret2
    exact ⟨HF.out, rfl⟩
  · by_cases h2 : (s.size : Int) < a
    · have HF := Lib.hid (Lx.place_fin s s a (by unfold Lx.clamp; rw [if_neg h1, if_pos h2, List.take_of_length_le (by rw [Fx.size_toList]; exact Nat.le_refl _)]))
      have b1 := Lx.count_bd s
      have b2 := Lx.last_bd s
      go_enter Try.func16, Try.ntmps16
      go_wp2_with fail
      refine (Count_any _ _).mono ?_
      rintro e w' ⟨rfl, rfl⟩
      go_wp2_with fail
      refine (LastIndexByte_any _ _ hs).mono ?_
      rintro e w' ⟨rfl, rfl⟩
      go_wp2
      go_ret2
      exact ⟨HF.out, rfl⟩
    · obtain ⟨d, hd⟩ : ∃ d, s.extract 0 a.toNat = d := ⟨_, rfl⟩
      have HF := Lib.hid (Lx.place_fin s d a (by unfold Lx.clamp; rw [if_neg h1, if_neg h2, ← hd, Lx.take_ext]))
      have b1 := Lx.count_bd d
      have b2 := Lx.last_bd d
      have hds : d.size ≤ 100000 := by
        have := congrArg ByteArray.size hd
        simp at this
        omega
      go_enter Try.func16, Try.ntmps16
      go_wp2_with fail
      refine (Count_any _ _).mono ?_
      rintro e w' ⟨rfl, rfl⟩
      go_wp2_with fail
      refine (LastIndexByte_any _ _ hds).mono ?_
      rintro e w' ⟨rfl, rfl⟩
      go_wp2
      go_ret2
      exact ⟨HF.out, rfl⟩
theorem Lx.place_step (s : ByteArray) (k : Nat) (h : k < s.size) : (s[k] = 10 → (Lx.place (s.data.toList.take (k + 1))) = ((Lx.place (s.data.toList.take k)).1 + 1, 1)) ∧ (s[k] ≠ 10 → Lx.place (s.data.toList.take (k + 1)) = ((Lx.place (s.data.toList.take k)).1, (Lx.place (s.data.toList.take k)).2 + 1)) := by
  rw [Fx.take_snoc s k h, Lx.place_snoc]
  unfold Lx.step
  exact ⟨fun e => by rw [if_pos e], fun e => by rw [if_neg e]⟩
theorem Lx.place_bd (s : ByteArray) : ∀ k, k ≤ s.size → (Lx.place (s.data.toList.take k)).1 ≤ k + 1 ∧ (Lx.place (s.data.toList.take k)).2 ≤ k + 1 := by
  intro k
  induction k with
  | zero => intro _; exact ⟨Nat.le_refl _, Nat.le_refl _⟩
  | succ k ih =>
    intro hk
    have := ih (by omega)
    obtain ⟨p1, p2⟩ := Lx.place_step s k (by omega)
    by_cases h : s[k] = 10
    · rw [p1 h]; refine ⟨by show _ + 1 ≤ _; omega, by show 1 ≤ _; omega⟩
    · rw [p2 h]; refine ⟨by show (Lx.place _).1 ≤ _; omega, by show _ + 1 ≤ _; omega⟩
set_option maxRecDepth 100000 in
set_option maxHeartbeats 1000000 in
theorem PlaceR_in (s : ByteArray) (n : Nat) (w : World) (hs : s.size ≤ 100000) (hn : n ≤ s.size) :
    Calls Try.prog 17 #[.string s, .int .i64 (n : Int)] w fun e w' => e = .returned (.tuple #[.int .i64 (Lx.place (s.data.toList.take n)).1, .int .i64 (Lx.place (s.data.toList.take n)).2]) ∧ w = w' := by
  have h1 : ¬ (n : Int) < 0 := by omega
  have h2 : (n : Int) ≤ (s.size : Int) := by omega
  go_enter Try.func17, Try.ntmps17
  go_wp2_with fail
  go_loop [6, 7, 8] (fun l c i => ∃ k : Nat, k ≤ n ∧ i = .int .i64 k ∧ l = .int .i64 (Lx.place (s.data.toList.take k)).1 ∧ c = .int .i64 (Lx.place (s.data.toList.take k)).2) (fun _ _ i => n - (intOf i).toNat)
  case atStart => exact ⟨0, by omega, rfl, rfl, rfl⟩
  case round =>
    obtain ⟨k, hk, rfl, rfl, rfl⟩ := hrel
    have hb := Lx.place_bd s k (by omega)
    by_cases hlt : k < n
    · have hksz : k < s.size := by omega
      have hst := Lx.place_step s k hksz
      have hlti : (k : Int) < (n : Int) := by omega
      obtain ⟨z, hz⟩ : ∃ z, Lx.place (s.data.toList.take k) = z := ⟨_, rfl⟩
      rw [hz] at hb hst ⊢
      by_cases hc : s[k] = 10
      · have H := Lib.hid (hst.1 hc)
        have hcb : ((s[k].toNat : Int) == 10) = true := by rw [hc]; rfl
        clear hst hz hc
        go_wp2
        go_round
        case rel => exact ⟨k + 1, by omega, by go_num, by rw [H.out]; rfl, by rw [H.out]; rfl⟩
        case measure => simp [intOf]; omega
      · have H := Lib.hid (hst.2 hc)
        have hcb : ((s[k].toNat : Int) == 10) = false := by
          rw [beq_eq_false_iff_ne]
          intro h
          apply hc
          apply UInt8.toNat_inj.1
          show s[k].toNat = 10
          omega
        clear hst hz hc
        go_wp2
        go_round
        case rel => exact ⟨k + 1, by omega, by go_num, by rw [H.out], by rw [H.out]; rfl⟩
        case measure => simp [intOf]; omega
    · obtain rfl : n = k := by omega
      have hge : ¬ ((n : Nat) : Int) < ((n : Nat) : Int) := by omega
      go_wp2
      go_ret2
      exact ⟨rfl, rfl⟩
set_option maxRecDepth 100000 in
set_option maxHeartbeats 1000000 in
theorem PlaceR_above (s : ByteArray) (a : Int) (w : World) (hs : s.size ≤ 100000) (ha : (s.size : Int) < a) (ha2 : a ≤ 9223372036854775807) :
    Calls Try.prog 17 #[.string s, .int .i64 a] w fun e w' => e = .returned (.tuple #[.int .i64 (Lx.place (s.data.toList.take s.size)).1, .int .i64 (Lx.place (s.data.toList.take s.size)).2]) ∧ w = w' := by
  have h1 : ¬ a < 0 := by omega
  go_enter Try.func17, Try.ntmps17
  go_wp2_with fail
  go_loop [6, 7, 8] (fun l c i => ∃ k : Nat, k ≤ s.size ∧ i = .int .i64 k ∧ l = .int .i64 (Lx.place (s.data.toList.take k)).1 ∧ c = .int .i64 (Lx.place (s.data.toList.take k)).2) (fun _ _ i => s.size - (intOf i).toNat)
  case atStart => exact ⟨0, by omega, rfl, rfl, rfl⟩
  case round =>
    obtain ⟨k, hk, rfl, rfl, rfl⟩ := hrel
    have hb := Lx.place_bd s k (by omega)
    by_cases hlt : k < s.size
    · have hksz : k < s.size := by omega
      have hst := Lx.place_step s k hksz
      have hlti : (k : Int) < (s.size : Int) := by omega
      obtain ⟨z, hz⟩ : ∃ z, Lx.place (s.data.toList.take k) = z := ⟨_, rfl⟩
      rw [hz] at hb hst ⊢
      by_cases hc : s[k] = 10
      · have H := Lib.hid (hst.1 hc)
        have hcb : ((s[k].toNat : Int) == 10) = true := by rw [hc]; rfl
        clear hst hz hc
        go_wp2
        go_round
        case rel => exact ⟨k + 1, by omega, by go_num, by rw [H.out]; rfl, by rw [H.out]; rfl⟩
        case measure => simp [intOf]; omega
      · have H := Lib.hid (hst.2 hc)
        have hcb : ((s[k].toNat : Int) == 10) = false := by
          rw [beq_eq_false_iff_ne]
          intro h
          apply hc
          apply UInt8.toNat_inj.1
          show s[k].toNat = 10
          omega
        clear hst hz hc
        go_wp2
        go_round
        case rel => exact ⟨k + 1, by omega, by go_num, by rw [H.out], by rw [H.out]; rfl⟩
        case measure => simp [intOf]; omega
    · obtain rfl : k = s.size := by omega
      have hge : ¬ ((s.size : Nat) : Int) < ((s.size : Nat) : Int) := by omega
      go_wp2
      go_ret2
      exact ⟨rfl, rfl⟩
set_option maxRecDepth 100000 in
set_option maxHeartbeats 1000000 in
theorem PlaceR_below (s : ByteArray) (a : Int) (w : World) (ha : a < 0) (_ha2 : -9223372036854775808 ≤ a) :
    Calls Try.prog 17 #[.string s, .int .i64 a] w fun e w' => e = .returned (.tuple #[.int .i64 1, .int .i64 1]) ∧ w = w' := by
  go_enter Try.func17, Try.ntmps17
  go_wp2_with fail
  go_loop [6, 7, 8] (fun l c i => i = .int .i64 0 ∧ l = .int .i64 1 ∧ c = .int .i64 1) (fun _ _ _ => 0)
  case atStart => exact ⟨rfl, rfl, rfl⟩
  case round =>
    obtain ⟨rfl, rfl, rfl⟩ := hrel
    go_wp2
    go_ret2
    exact ⟨rfl, rfl⟩
theorem PlaceR_any (s : ByteArray) (a : Int) (w : World) (hs : s.size ≤ 100000) (ha : -9223372036854775808 ≤ a ∧ a ≤ 9223372036854775807) :
    Calls Try.prog 17 #[.string s, .int .i64 a] w fun e w' => e = .returned (Lx.PlaceV s a) ∧ w = w' := by
  unfold Lx.PlaceV Lx.clamp
  by_cases h1 : a < 0
  · rw [if_pos h1]
    exact PlaceR_below s a w h1 ha.1
  · rw [if_neg h1]
    by_cases h2 : (s.size : Int) < a
    · rw [if_pos h2]
      exact PlaceR_above s a w hs h2 ha.2
    · rw [if_neg h2]
      obtain ⟨n, rfl⟩ : ∃ n : Nat, a = n := ⟨a.toNat, by omega⟩
      rw [Int.toNat_natCast]
      exact PlaceR_in s n w hs (by omega)
end Go.Proofs.Ytggkohbfgnbgeaa
