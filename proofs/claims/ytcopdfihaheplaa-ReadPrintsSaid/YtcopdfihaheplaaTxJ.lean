/-
 The walks of the reference's charText and quoted.
-/
import Derived.Test.YtcopdfihaheplaaTxI
import Derived.Test.YtcopdfihaheplaaTxA
namespace Go.Proofs.Ytcopdfihaheplaa
open Go.RowKit
namespace Tx
theorem conv1 (a : UInt8) (w2 : World) (g : Nat) (hw : w2.cell? ⟨g, 0, none⟩ = some (.int .u8 (a.toNat : Int))) :
  (convert 53 9 (.slice (some ⟨g, 0, none⟩) 1 1)).run Try.prog w2 = .ok (.string ⟨#[a]⟩) w2 := by
 have h := run_convert_bytes_arg (P := Try.prog) w2 53 5 Try.underlying53 Try.underlying5 g 0 1 1 [(a.toNat : Int)] rfl (fun i hi => by
  match i, hi with
  | 0, _ => simpa using hw) 9 Try.underlying9
 rw [h]
 simp [strOfNums]
theorem pair_len (c : Nat) : (pairL c).length = 2 := rfl
theorem esc_len (c : UInt8) : (escL c).length ≤ 4 := by
 unfold escL
 split
 ·simp
 split
 ·simp
 split
 ·simp
 split
 ·simp
 split
 ·simp
 ·simp [pair_len]
theorem escs_cons (c : UInt8) (l : List UInt8) : escsL (c :: l) = escL c ++ escsL l := by simp [escsL]
end Tx
set_option maxRecDepth 100000 in
set_option maxHeartbeats 2000000 in
theorem charTextR_any (n : Nat) (hn : n < 128) (w : World) :
  Calls Try.prog 96 #[.int .i64 (n : Int)] w fun e w' => e = .returned (.string ⟨(35 :: 92 :: Tx.letL n).toArray⟩) ∧ Below w.heap.size w w' := by
 have he : Tx.letL n = if n = 32 then [115, 112, 97, 99, 101] else if n = 10 then [110, 101, 119, 108, 105, 110, 101] else if n = 9 then [116, 97, 98] else if n = 0 then [110, 117, 108]
  else if 32 < n ∧ n < 127 then [UInt8.ofNat n] else 120 :: Tx.pairL n := rfl
 have HE := Lib.hid he
 clear he
 by_cases h1 : n = 32
 ·have HR : Hid (Tx.letL n = [115, 112, 97, 99, 101]) := by show _ = _; rw [HE.out, if_pos h1]
  have i1 : ((n : Int) == 32) = true := by rw [beq_iff_eq]; omega
  clear h1
  go_enter Try.func96, Try.ntmps96
  go_wp2
  go_ret
  exact ⟨by rw [HR.out]; rfl, Below.refl _ _⟩
 have i1 : ((n : Int) == 32) = false := by rw [beq_eq_false_iff_ne]; omega
 by_cases h2 : n = 10
 ·have HR : Hid (Tx.letL n = [110, 101, 119, 108, 105, 110, 101]) := by show _ = _; rw [HE.out, if_neg h1, if_pos h2]
  have i2 : ((n : Int) == 10) = true := by rw [beq_iff_eq]; omega
  clear h1 h2
  go_enter Try.func96, Try.ntmps96
  go_wp2
  go_ret
  exact ⟨by rw [HR.out]; rfl, Below.refl _ _⟩
 have i2 : ((n : Int) == 10) = false := by rw [beq_eq_false_iff_ne]; omega
 by_cases h3 : n = 9
 ·have HR : Hid (Tx.letL n = [116, 97, 98]) := by show _ = _; rw [HE.out, if_neg h1, if_neg h2, if_pos h3]
  have i3 : ((n : Int) == 9) = true := by rw [beq_iff_eq]; omega
  clear h1 h2 h3
  go_enter Try.func96, Try.ntmps96
  go_wp2
  go_ret
  exact ⟨by rw [HR.out]; rfl, Below.refl _ _⟩
 have i3 : ((n : Int) == 9) = false := by rw [beq_eq_false_iff_ne]; omega
 by_cases h4 : n = 0
 ·have HR : Hid (Tx.letL n = [110, 117, 108]) := by show _ = _; rw [HE.out, if_neg h1, if_neg h2, if_neg h3, if_pos h4]
  have i4 : ((n : Int) == 0) = true := by rw [beq_iff_eq]; omega
  clear h1 h2 h3 h4
  go_enter Try.func96, Try.ntmps96
  go_wp2
  go_ret
  exact ⟨by rw [HR.out]; rfl, Below.refl _ _⟩
 have i4 : ((n : Int) == 0) = false := by rw [beq_eq_false_iff_ne]; omega
 by_cases h5 : 32 < n ∧ n < 127
 ·have HR : Hid (Tx.letL n = [UInt8.ofNat n]) := by show _ = _; rw [HE.out, if_neg h1, if_neg h2, if_neg h3, if_neg h4, if_pos h5]
  have g1 : ¬ ((n : Int) < 32) := by omega
  have g2 : ((n : Int) == 127) = false := by rw [beq_eq_false_iff_ne]; omega
  have hm : (n : Int) % 256 = (n : Int) := by omega
  have hu : ((UInt8.ofNat n).toNat : Int) = (n : Int) := by simp; omega
  have hcv := Tx.conv1 (UInt8.ofNat n) (w.alloc (.cells #[.int .u8 (n : Int)] 5)) w.heap.size (by rw [hu]; simp [World.cell?_alloc_new])
  have HC := Tx.cat [35, 92] [UInt8.ofNat n] (by simp) (by simp)
  clear h1 h2 h3 h4 h5 hu
  go_enter Try.func96, Try.ntmps96
  go_wp2
  go_ret
  exact ⟨by rw [HR.out]; rfl, (Below.refl _ _).alloc (Nat.le_refl _) _⟩
 ·have HR : Hid (Tx.letL n = 120 :: Tx.pairL n) := by show _ = _; rw [HE.out, if_neg h1, if_neg h2, if_neg h3, if_neg h4, if_neg h5]
  have hp := twoR_any n (by omega)
  rw [Tx.two_list n (by omega)] at hp
  have HC := Tx.cat [35, 92] (120 :: Tx.pairL n) (by simp) (by simp [Tx.pairL])
  have hcase : (n : Int) < 32 ∨ (¬ ((n : Int) < 32) ∧ ((n : Int) == 127) = true) := by rw [beq_iff_eq]; omega
  clear h1 h2 h3 h4 h5
  rcases hcase with g1 | ⟨g1, g2⟩
  ·go_enter Try.func96, Try.ntmps96
   go_wp2_with (go_at_call 105; refine (hp _).mono ?_; rintro e w1 ⟨rfl, hb1⟩)
   go_ret
   exact ⟨by rw [HR.out]; rfl, hb1⟩
  ·go_enter Try.func96, Try.ntmps96
   go_wp2_with (go_at_call 105; refine (hp _).mono ?_; rintro e w1 ⟨rfl, hb1⟩)
   go_ret
   exact ⟨by rw [HR.out]; rfl, hb1⟩
set_option maxRecDepth 100000 in
set_option maxHeartbeats 4000000 in
theorem quotedR_any (s : ByteArray) (w : World) (hs : s.size ≤ 256) (ha : ∀ j, (h : j < s.size) → s[j].toNat < 128) :
  Calls Try.prog 97 #[.string s] w fun e w' => e = .returned (.string ⟨(Tx.quotL s.data.toList).toArray⟩) ∧ Below w.heap.size w w' := by
 have h0 : Tx.quotL s.data.toList = 34 :: ([] ++ Tx.escsL (Lx.tl s 0) ++ [34]) := by unfold Tx.quotL Lx.tl; simp
 obtain ⟨Q, hQ⟩ : ∃ Q, Tx.quotL s.data.toList = Q := ⟨_, rfl⟩
 rw [hQ] at h0 ⊢
 clear hQ
 have H0 := Lib.hid h0
 have HA := Lib.hid ha
 clear h0 ha
 go_enter Try.func97, Try.ntmps97
 go_wp2_with fail
 go_loopw [3, 4] (fun vo vi wr => ∃ (k : Nat) (p : List UInt8), vo = .string ⟨(34 :: p).toArray⟩ ∧ vi = .int .i64 k ∧ k ≤ s.size ∧ Hid (p.length ≤ 4 * k) ∧ Hid (Q = 34 :: (p ++ Tx.escsL (Lx.tl s k) ++ [34])) ∧ Below w.heap.size w wr) (fun _ vi _ => s.size - (intOf vi).toNat)
 case atStart => exact ⟨0, [], rfl, rfl, by omega, by show _ ≤ _; simp, H0, Below.refl _ _⟩
 case round =>
  obtain ⟨k, p, rfl, rfl, hk, HP, HR, hbl⟩ := hrel
  have HB := Lib.hid hbl
  by_cases hlt : k < s.size
  case neg =>
   have hge : (s.size : Int) ≤ (k : Int) := by omega
   have HE : Hid (Q = 34 :: (p ++ [34])) := by show _ = _; rw [HR.out, Lx.tl_nil s k (by omega)]; simp [Tx.escsL]
   have HC := Tx.cat (34 :: p) [34] (by have := HP.out; simp; omega) (by simp)
   clear hbl
   go_wp2
   go_ret
   exact ⟨by rw [HE.out]; rfl, HB.out⟩
  have hlti : (k : Int) < (s.size : Int) := by omega
  have hr := HR.out
  rw [Lx.tl_cons s k hlt, Tx.escs_cons] at hr
  obtain ⟨c, hc⟩ : ∃ c, s[k] = c := ⟨_, rfl⟩
  have hc128 : c.toNat < 128 := by rw [← hc]; exact HA.out k hlt
  rw [hc] at hr
  have HN : Hid (Q = 34 :: ((p ++ Tx.escL c) ++ Tx.escsL (Lx.tl s (k + 1)) ++ [34])) := by show _ = _; rw [hr]; simp
  have HPN : Hid ((p ++ Tx.escL c).length ≤ 4 * (k + 1)) := by show _ ≤ _; have := HP.out; have := Tx.esc_len c; simp; omega
  have HE := Lib.hid (Tx.esc_int c)
  have HPL : Hid ((34 :: p).length ≤ 1000000) := by show _ ≤ _; have := HP.out; simp; omega
  clear hr HR hbl
  obtain ⟨x, hx⟩ : ∃ x : Int, (c.toNat : Int) = x := ⟨_, rfl⟩
  have HX := Lib.hid hx
  have hxb : 0 ≤ x ∧ x ≤ 127 := by omega
  have hcx := hx
  clear hx hc128
  cases f1 : (x == 10)
  case true =>
   have HV : Hid (Tx.escL c = [92, 110]) := by show _ = _; rw [HE.out, HX.out, f1]; rfl
   have HC := Tx.cat (34 :: p) [92, 110] HPL.out (by simp)
   go_wp2
   go_roundw
   case rel => exact ⟨k + 1, p ++ [92, 110], by first | rfl | simp, by simp, by omega, by rw [HV.out] at HPN; exact HPN, by rw [HV.out] at HN; exact HN, HB.out⟩
   case measure => simp [intOf]; omega
  cases f2 : (x == 9)
  case true =>
   have HV : Hid (Tx.escL c = [92, 116]) := by show _ = _; rw [HE.out, HX.out, f1, f2]; rfl
   have HC := Tx.cat (34 :: p) [92, 116] HPL.out (by simp)
   go_wp2
   go_roundw
   case rel => exact ⟨k + 1, p ++ [92, 116], by first | rfl | simp, by simp, by omega, by rw [HV.out] at HPN; exact HPN, by rw [HV.out] at HN; exact HN, HB.out⟩
   case measure => simp [intOf]; omega
  cases f3 : (x == 34)
  case true =>
   have HV : Hid (Tx.escL c = [92, 34]) := by show _ = _; rw [HE.out, HX.out, f1, f2, f3]; rfl
   have HC := Tx.cat (34 :: p) [92, 34] HPL.out (by simp)
   go_wp2
   go_roundw
   case rel => exact ⟨k + 1, p ++ [92, 34], by first | rfl | simp, by simp, by omega, by rw [HV.out] at HPN; exact HPN, by rw [HV.out] at HN; exact HN, HB.out⟩
   case measure => simp [intOf]; omega
  cases f4 : (x == 92)
  case true =>
   have HV : Hid (Tx.escL c = [92, 92]) := by show _ = _; rw [HE.out, HX.out, f1, f2, f3, f4]; rfl
   have HC := Tx.cat (34 :: p) [92, 92] HPL.out (by simp)
   go_wp2
   go_roundw
   case rel => exact ⟨k + 1, p ++ [92, 92], by first | rfl | simp, by simp, by omega, by rw [HV.out] at HPN; exact HPN, by rw [HV.out] at HN; exact HN, HB.out⟩
   case measure => simp [intOf]; omega
  by_cases h5 : 32 ≤ x ∧ x < 127
  ·obtain ⟨g1, g2⟩ := h5
   have HV : Hid (Tx.escL c = [c]) := by show _ = _; rw [HE.out, HX.out, f1, f2, f3, f4]; simp [g1, g2]
   have g3 : ¬ (x < 32) := by omega
   have g4 : (x == 127) = false := by rw [beq_eq_false_iff_ne]; omega
   have hcv := Tx.conv1 c (wr.alloc (.cells #[.int .u8 x] 5)) wr.heap.size (by rw [HX.out]; simp [World.cell?_alloc_new])
   have HC := Tx.cat (34 :: p) [c] HPL.out (by simp)
   go_wp2
   go_roundw
   case rel => exact ⟨k + 1, p ++ [c], by first | rfl | simp, by simp, by omega, by rw [HV.out] at HPN; exact HPN, by rw [HV.out] at HN; exact HN, HB.out.alloc HB.out.size _⟩
   case measure => simp [intOf]; omega
  ·have HV : Hid (Tx.escL c = 92 :: 120 :: Tx.pairL c.toNat) := by show _ = _; rw [HE.out, HX.out, f1, f2, f3, f4, if_neg (by simp), if_neg (by simp), if_neg (by simp), if_neg (by simp), if_neg (by simp; omega)]
   have hp := twoR_any c.toNat (by have := c.toNat_lt; omega)
   rw [Tx.two_list c.toNat (by have := c.toNat_lt; omega), HX.out] at hp
   have HC1 := Tx.cat [92] (120 :: Tx.pairL c.toNat) (by simp) (by simp [Tx.pairL])
   have HC := Tx.cat (34 :: p) (92 :: 120 :: Tx.pairL c.toNat) HPL.out (by simp [Tx.pairL])
   have hcase : x < 32 ∨ (¬ (x < 32) ∧ (x == 127) = true) := by rw [beq_iff_eq]; omega
   clear h5
   rcases hcase with g1 | ⟨g1, g2⟩
   ·go_wp2_with (go_at_call 105; refine (hp _).mono ?_; rintro e w1 ⟨rfl, hb1⟩)
    go_roundw
    case rel => exact ⟨k + 1, p ++ 92 :: 120 :: Tx.pairL c.toNat, by first | rfl | simp, by simp, by omega, by rw [HV.out] at HPN; exact HPN, by rw [HV.out] at HN; exact HN, HB.out.trans (hb1.mono HB.out.size)⟩
    case measure => simp [intOf]; omega
   ·go_wp2_with (go_at_call 105; refine (hp _).mono ?_; rintro e w1 ⟨rfl, hb1⟩)
    go_roundw
    case rel => exact ⟨k + 1, p ++ 92 :: 120 :: Tx.pairL c.toNat, by first | rfl | simp, by simp, by omega, by rw [HV.out] at HPN; exact HPN, by rw [HV.out] at HN; exact HN, HB.out.trans (hb1.mono HB.out.size)⟩
    case measure => simp [intOf]; omega
end Go.Proofs.Ytcopdfihaheplaa
