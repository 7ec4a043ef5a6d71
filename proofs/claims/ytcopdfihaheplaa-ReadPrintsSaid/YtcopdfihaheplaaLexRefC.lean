/-
 The walks of the reference's hex, escaped, Symbol.
-/
import Derived.Test.YtcopdfihaheplaaLexRefA
import Derived.Test.YtcopdfihaheplaaLexQuoted
import Derived.Test.YtcopdfihaheplaaLexSym
namespace Go.Proofs.Ytcopdfihaheplaa
open Go.RowKit
namespace Lx
end Lx
set_option maxRecDepth 100000 in
theorem isInR_any (c : UInt8) (z : ByteArray) (w : World) (hz : z.size ≤ 1000) :
  Calls Try.prog 85 #[.int .u8 (c.toNat : Int), .string z] w fun e w' => e = .returned (.bool (z.data.toList.contains c)) ∧ w = w' := by
 obtain ⟨R, hR⟩ : ∃ R, z.data.toList.contains c = R := ⟨_, rfl⟩
 rw [hR]
 have H0 : Hid (R = (Lx.tl z 0).contains c) := by show _ = _; rw [← hR]; unfold Lx.tl; simp
 clear hR
 go_enter Try.func85, Try.ntmps85
 go_wp2_with fail
 go_loop [5] (fun vi => ∃ k : Nat, vi = .int .i64 k ∧ k ≤ z.size ∧ Hid (R = (Lx.tl z k).contains c)) (fun vi => z.size - (intOf vi).toNat)
 case atStart => exact ⟨0, rfl, by omega, H0⟩
 case round =>
  obtain ⟨k, rfl, hk, HR⟩ := hrel
  by_cases hlt : k < z.size
  case neg =>
   have hge : ¬ (k : Int) < (z.size : Int) := by omega
   have HE : Hid (R = false) := by show _ = _; rw [HR.out, Lx.tl_nil z k (by omega)]; rfl
   go_wp2
   go_ret
   exact ⟨by rw [HE.out]; rfl, rfl⟩
  have hlti : (k : Int) < (z.size : Int) := by omega
  have hr := HR.out
  rw [Lx.tl_cons z k hlt, List.contains_cons] at hr
  by_cases he : z[k] = c
  ·have HE : Hid (R = true) := by show _ = _; rw [hr, he]; simp
   have hb : ((z[k].toNat : Int) == (c.toNat : Int)) = true := by rw [he]; simp
   have hb2 : (z[k].toNat == c.toNat) = true := by rw [he]; simp
   clear hr HR he
   go_wp2
   go_ret
   exact ⟨by rw [HE.out]; rfl, rfl⟩
  ·have hne : z[k].toNat ≠ c.toNat := fun h => he (UInt8.toNat_inj.1 h)
   have HN : Hid (R = (Lx.tl z (k + 1)).contains c) := by
    show _ = _; rw [hr, show (c == z[k]) = false by rw [beq_eq_false_iff_ne]; exact fun h => he h.symm]; rfl
   have hb : ((z[k].toNat : Int) == (c.toNat : Int)) = false := by rw [beq_eq_false_iff_ne]; omega
   have hb2 : (z[k].toNat == c.toNat) = false := by rw [beq_eq_false_iff_ne]; exact hne
   clear hr HR he hne
   go_wp2
   go_round
   case rel => exact ⟨k + 1, by go_num, by omega, HN⟩
   case measure => simp [intOf]; omega
namespace Lx
def signsB : ByteArray := ⟨#[33, 36, 37, 38, 42, 47, 58, 60, 61, 62, 63, 94, 95, 126]⟩
def moreB : ByteArray := ⟨#[48, 49, 50, 51, 52, 53, 54, 55, 56, 57, 43, 45, 46, 64]⟩
theorem begins_int (c : UInt8) : begins c = ((decide (97 ≤ (c.toNat : Int)) && decide ((c.toNat : Int) ≤ 122)) || (decide (65 ≤ (c.toNat : Int)) && decide ((c.toNat : Int) ≤ 90)) || signsB.data.toList.contains c) := by
 unfold begins
 rw [low_int, show decide (65 ≤ c.toNat) = decide (65 ≤ (c.toNat : Int)) from decide_eq_decide.2 (by omega), show decide (c.toNat ≤ 90) = decide ((c.toNat : Int) ≤ 90) from decide_eq_decide.2 (by omega)]
 rfl
theorem goes_more (c : UInt8) : goes c = (begins c || moreB.data.toList.contains c) := by
 refine all_bytes goes (fun c => begins c || moreB.data.toList.contains c) ?_ c
 decide +kernel
end Lx
set_option maxRecDepth 100000 in
theorem letterR_any (c : UInt8) (w : World) :
  Calls Try.prog 84 #[.int .u8 (c.toNat : Int)] w fun e w' => e = .returned (.bool (Lx.begins c)) ∧ w = w' := by
 have hi := isInR_any c Lx.signsB w (by decide)
 have HB := Lib.hid (Lx.begins_int c)
 obtain ⟨f, hf⟩ : ∃ f, Lx.signsB.data.toList.contains c = f := ⟨_, rfl⟩
 rw [hf] at hi
 have HF := Lib.hid hf
 clear hf
 have hr : (c.toNat : Int) < 65 ∨ (65 ≤ (c.toNat : Int) ∧ (c.toNat : Int) ≤ 90) ∨ (90 < (c.toNat : Int) ∧ (c.toNat : Int) < 97) ∨ (97 ≤ (c.toNat : Int) ∧ (c.toNat : Int) ≤ 122) ∨ 122 < (c.toNat : Int) := by omega
 rcases hr with h1 | ⟨h1, h2⟩ | ⟨h1, h2⟩ | ⟨h1, h2⟩ | h1
 ·have HR : Hid (Lx.begins c = f) := by
   show _ = _
   rw [HB.out, HF.out, decide_eq_false (show ¬ 97 ≤ (c.toNat : Int) by omega), decide_eq_false (show ¬ 65 ≤ (c.toNat : Int) by omega)]; simp
  go_enter Try.func84, Try.ntmps84
  go_wp2_with fail
  refine hi.mono ?_
  rintro e w1 ⟨rfl, rfl⟩
  go_wp2
  go_ret
  exact ⟨by rw [HR.out]; rfl, rfl⟩
 ·have HR : Hid (Lx.begins c = true) := by
   show _ = _
   rw [HB.out, decide_eq_true (show 65 ≤ (c.toNat : Int) by omega), decide_eq_true (show (c.toNat : Int) ≤ 90 by omega)]; simp
  go_enter Try.func84, Try.ntmps84
  go_wp2
  go_ret
  exact ⟨by rw [HR.out]; rfl, rfl⟩
 ·have HR : Hid (Lx.begins c = f) := by
   show _ = _
   rw [HB.out, HF.out, decide_eq_false (show ¬ 97 ≤ (c.toNat : Int) by omega), decide_eq_false (show ¬ (c.toNat : Int) ≤ 90 by omega)]; simp
  have d90 : decide ((c.toNat : Int) ≤ 90) = false := decide_eq_false (by omega)
  go_enter Try.func84, Try.ntmps84
  go_wp2_with fail
  refine hi.mono ?_
  rintro e w1 ⟨rfl, rfl⟩
  go_wp2
  go_ret
  exact ⟨by rw [HR.out]; rfl, rfl⟩
 ·have HR : Hid (Lx.begins c = true) := by
   show _ = _
   rw [HB.out, decide_eq_true (show 97 ≤ (c.toNat : Int) by omega), decide_eq_true (show (c.toNat : Int) ≤ 122 by omega)]; simp
  go_enter Try.func84, Try.ntmps84
  go_wp2
  go_ret
  exact ⟨by rw [HR.out]; rfl, rfl⟩
 ·have HR : Hid (Lx.begins c = f) := by
   show _ = _
   rw [HB.out, HF.out, decide_eq_false (show ¬ (c.toNat : Int) ≤ 122 by omega), decide_eq_false (show ¬ (c.toNat : Int) ≤ 90 by omega)]; simp
  have d90 : decide ((c.toNat : Int) ≤ 90) = false := decide_eq_false (by omega)
  have d122 : decide ((c.toNat : Int) ≤ 122) = false := decide_eq_false (by omega)
  go_enter Try.func84, Try.ntmps84
  go_wp2_with fail
  refine hi.mono ?_
  rintro e w1 ⟨rfl, rfl⟩
  go_wp2
  go_ret
  exact ⟨by rw [HR.out]; rfl, rfl⟩
set_option maxRecDepth 100000 in
set_option maxHeartbeats 2000000 in
theorem SymbolR_any (s : ByteArray) (w : World) (hs : s.size ≤ 1000000) :
  Calls Try.prog 59 #[.string s] w fun e w' => e = .returned (.bool (Lx.symbol s.data.toList)) ∧ w = w' := by
 obtain ⟨R, hR⟩ : ∃ R, Lx.symbol s.data.toList = R := ⟨_, rfl⟩
 rw [hR]
 unfold Lx.symbol at hR
 rw [← ByteArray.toList_eq] at hR
 cases h1 : (s.toList == [43])
 case true =>
  have HF : Hid (R = true) := by show _ = _; rw [← hR, h1]; rfl
  clear hR
  go_enter Try.func59, Try.ntmps59
  go_wp2
  go_ret
  exact ⟨by rw [HF.out]; rfl, rfl⟩
 cases h2 : (s.toList == [45])
 case true =>
  have HF : Hid (R = true) := by show _ = _; rw [← hR, h1, h2]; rfl
  clear hR
  go_enter Try.func59, Try.ntmps59
  go_wp2
  go_ret
  exact ⟨by rw [HF.out]; rfl, rfl⟩
 cases h3 : (s.toList == [46, 46, 46])
 case true =>
  have HF : Hid (R = true) := by show _ = _; rw [← hR, h1, h2, h3]; rfl
  clear hR
  go_enter Try.func59, Try.ntmps59
  go_wp2
  go_ret
  exact ⟨by rw [HF.out]; rfl, rfl⟩
 rw [h1, h2, h3, ByteArray.toList_eq] at hR
 simp only [Bool.false_or] at hR
 have hlen : s.data.toList.length = s.size := Fx.size_toList s
 by_cases h0 : s.size = 0
 ·have h0i : (s.size : Int) < 1 := by omega
  have HF : Hid (R = false) := by
   show _ = _
   rw [← hR, show s.data.toList = [] from List.length_eq_zero_iff.1 (by omega)]; rfl
  clear hR
  go_enter Try.func59, Try.ntmps59
  go_wp2
  go_ret
  exact ⟨by rw [HF.out]; rfl, rfl⟩
 have h0i : ¬ (s.size : Int) < 1 := by omega
 have hpos : 0 < s.size := by omega
 by_cases h32 : 32 < s.size
 ·have h32i : 32 < (s.size : Int) := by omega
  have HF : Hid (R = false) := by
   show _ = _
   rw [← hR, hlen, decide_eq_false (show ¬ s.size ≤ 32 by omega)]; simp
  clear hR
  go_enter Try.func59, Try.ntmps59
  go_wp2
  go_ret
  exact ⟨by rw [HF.out]; rfl, rfl⟩
 have h32i : ¬ 32 < (s.size : Int) := by omega
 have hcons : s.data.toList = s[0] :: Lx.tl s 1 := by
  have := Lx.tl_cons s 0 hpos
  rw [← this]; unfold Lx.tl; simp
 have hR2 : R = (Lx.begins s[0] && (Lx.goes s[0] && (Lx.tl s 1).all Lx.goes)) := by
  rw [← hR, hlen, decide_eq_true (show s.size ≤ 32 by omega), hcons]
  simp
 have hl := letterR_any s[0] w
 cases hb : Lx.begins s[0]
 ·have HF : Hid (R = false) := by show _ = _; rw [hR2, hb]; rfl
  rw [hb] at hl
  clear hR hR2 hcons hlen
  go_enter Try.func59, Try.ntmps59
  go_wp2_with fail
  refine hl.mono ?_
  rintro e w1 ⟨rfl, rfl⟩
  go_wp2
  go_ret
  exact ⟨by rw [HF.out]; rfl, rfl⟩
 have H1 : Hid (R = (Lx.tl s 1).all Lx.goes) := by
  show _ = _; rw [hR2, hb, Lx.goes_more, hb]; simp
 rw [hb] at hl
 clear hR hR2 hcons hlen
 go_enter Try.func59, Try.ntmps59
 go_wp2_with fail
 refine hl.mono ?_
 rintro e w1 ⟨rfl, rfl⟩
 clear hl
 go_wp2_with fail
 go_loop [3] (fun vi => ∃ k : Nat, vi = .int .i64 k ∧ 1 ≤ k ∧ k ≤ s.size ∧ Hid (R = (Lx.tl s k).all Lx.goes)) (fun vi => s.size - (intOf vi).toNat)
 case atStart => exact ⟨1, rfl, by omega, by omega, H1⟩
 case round =>
  obtain ⟨k, rfl, hk1, hk, HR⟩ := hrel
  by_cases hlt : k < s.size
  case neg =>
   have hge : ¬ (k : Int) < (s.size : Int) := by omega
   have HE : Hid (R = true) := by show _ = _; rw [HR.out, Lx.tl_nil s k (by omega)]; rfl
   go_wp2
   go_ret
   exact ⟨by rw [HE.out]; rfl, rfl⟩
  have hlti : (k : Int) < (s.size : Int) := by omega
  have hr := HR.out
  rw [Lx.tl_cons s k hlt, List.all_cons, Lx.goes_more] at hr
  have hl2 := letterR_any s[k] w
  have hi2 := isInR_any s[k] Lx.moreB w (by decide)
  cases hb2 : Lx.begins s[k]
  ·rw [hb2] at hl2 hr
   cases hm : Lx.moreB.data.toList.contains s[k]
   ·rw [hm] at hi2 hr
    have HE : Hid (R = false) := hr
    clear hr HR hb2 hm
    go_wp2_with fail
    refine hl2.mono ?_
    rintro e w1 ⟨rfl, rfl⟩
    go_wp2_with fail
    refine hi2.mono ?_
    rintro e w1 ⟨rfl, rfl⟩
    go_wp2
    go_ret
    exact ⟨by rw [HE.out]; rfl, rfl⟩
   ·rw [hm] at hi2 hr
    have HN : Hid (R = (Lx.tl s (k + 1)).all Lx.goes) := by show _ = _; rw [hr]; simp
    clear hr HR hb2 hm
    go_wp2_with fail
    refine hl2.mono ?_
    rintro e w1 ⟨rfl, rfl⟩
    go_wp2_with fail
    refine hi2.mono ?_
    rintro e w1 ⟨rfl, rfl⟩
    go_wp2
    go_round
    case rel => exact ⟨k + 1, by go_num, by omega, by omega, HN⟩
    case measure => simp [intOf]; omega
  ·rw [hb2] at hl2 hr
   have HN : Hid (R = (Lx.tl s (k + 1)).all Lx.goes) := by show _ = _; rw [hr]; simp
   clear hr HR hb2
   go_wp2_with fail
   refine hl2.mono ?_
   rintro e w1 ⟨rfl, rfl⟩
   go_wp2
   go_round
   case rel => exact ⟨k + 1, by go_num, by omega, by omega, HN⟩
   case measure => simp [intOf]; omega
end Go.Proofs.Ytcopdfihaheplaa
