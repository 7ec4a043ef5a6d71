/-
 The walk of the gap of the package lex.
-/
import Derived.Test.YtcopdfihaheplaaLexGap
namespace Go.Proofs.Ytcopdfihaheplaa
open Go.RowKit
namespace Lx
theorem com_len : ∀ (m : Nat) (l : List UInt8) (o : Nat) (r : List UInt8), l.length ≤ m → com l o = some r → r.length + 2 ≤ l.length := by
 intro m
 induction m with
 | zero =>
  intro l o r hl h
  have : l = [] := List.eq_nil_of_length_eq_zero (by omega)
  subst this
  rw [com] at h; cases h
 | succ m ih =>
  intro l o r hl h
  cases l with
  | nil => rw [com] at h; cases h
  | cons c l =>
   rw [com] at h
   simp only [List.length_cons] at hl ⊢
   split at h
   ·rename_i hh
    have h2 := ih l.tail (o + 1) r (by rw [List.length_tail]; omega) h
    rw [List.length_tail] at h2; omega
   ·split at h
    ·rename_i hh
     have hne : 1 ≤ l.length := by
      cases l with
      | nil => simp at hh
      | cons => simp
     split at h
     ·injection h with h; rw [← h, List.length_tail]; omega
     ·have h2 := ih l.tail (o - 1) r (by rw [List.length_tail]; omega) h
      rw [List.length_tail] at h2; omega
    ·have h2 := ih l o r (by omega) h
     omega
theorem idx_drop (l : List UInt8) (c : UInt8) : (Lib.indexByte l c = -1 ∧ l.dropWhile (· != c) = []) ∨ (∃ i : Nat, Lib.indexByte l c = (i : Int) ∧ i < l.length ∧ l.dropWhile (· != c) = l.drop i) := by
 induction l with
 | nil => exact .inl ⟨rfl, rfl⟩
 | cons b l ih =>
  unfold Lib.indexByte
  by_cases hb : b = c
  ·subst hb
   exact .inr ⟨0, by simp, by simp, by simp⟩
  ·have e1 : (b == c) = false := by simpa using hb
   have e2 : (b != c) = true := by simpa using hb
   rw [e1, List.dropWhile_cons, e2]
   rcases ih with ⟨h1, h2⟩ | ⟨i, h1, h2, h3⟩
   ·exact .inl ⟨by rw [h1]; rfl, h2⟩
   ·refine .inr ⟨i + 1, ?_, by simp; omega, by simpa using h3⟩
    have e3 : (Lib.indexByte l c == -1) = false := beq_eq_false_iff_ne.2 (by omega)
    rw [e3, h1]; simp
theorem gap_nil (f : Nat) : gap f [] = ([], true) := by cases f <;> rfl
theorem gap_step (f : Nat) (s : ByteArray) (n : Nat) (h : n < s.size) : gap (f + 1) (tl s n) =
  if white (pk (tl s n) 0) then gap f (tl s (n + 1))
  else if pk (tl s n) 0 == 59 then gap f ((tl s n).dropWhile (· != 10))
  else if pk (tl s n) 0 == 35 && pk (tl s n) 1 == 124 then
   match com (tl s n) 0 with
   | none => (tl s n, false)
   | some r' => gap f r'
  else (tl s n, true) := by
 have e := tl_pk s n h
 have hh : ((tl s (n + 1)).head? == some 124) = (pk (tl s n) 1 == 124) := by rw [head_pk s (n + 1) 124 (by decide), ← pk_succ]
 have hd : pk (tl s n) 0 == 59 → (tl s n).dropWhile (· != 10) = (tl s (n + 1)).dropWhile (· != 10) := fun h59 => by
  rw [e, List.dropWhile_cons]
  rw [show pk (tl s n) 0 = 59 by simpa using h59]
  rfl
 conv => lhs; rw [e, gap, ← e, hh]
 split
 ·rfl
 ·split
  ·rename_i h59; rw [hd h59]
  ·rfl
def GapPost (B : Nat) (s : ByteArray) (r : List UInt8) (ok : Bool) (w : World) (e : Ending) (w' : World) : Prop :=
 ∃ n, e = .returned (.bool ok) ∧ r = tl s n ∧ n ≤ s.size ∧ Scan w' B s n ∧ Chg B w w'
end Lx
theorem IndexByte_10 (s : ByteArray) (w : World) :
  Calls Try.prog 61 #[.string s, .int .u8 10] w fun e w' => e = .returned (.int .i64 (Lib.indexByte s.data.toList 10)) ∧ w' = w :=
 IndexByte_q s 10 w
theorem Lx.ext_tl (s : ByteArray) (n : Nat) : (s.extract n s.size).data.toList = Lx.tl s n := by
 rw [Lib.extract_data]
 exact List.take_of_length_le (by rw [List.length_drop, Fx.size_toList]; exact Nat.le_refl _)
set_option maxRecDepth 100000 in
set_option maxHeartbeats 1000000 in
theorem gap_any (B at0 f0 : Nat) (s : ByteArray) (r : List UInt8) (ok : Bool) (w : World) (h : Lx.Scan w B s at0) (hs : s.size ≤ 4611686018427387904) (ha : at0 ≤ s.size) (hf : s.size ≤ at0 + f0)
  (hg : Lx.gap f0 (Lx.tl s at0) = (r, ok)) :
  Calls Try.prog 38 #[.pointer (some ⟨B, 0, none⟩)] w (Lx.GapPost B s r ok w) := by
 have HG := Lib.hid hg
 clear hg
 go_enter Try.func38, Try.ntmps38
 go_wp2_with fail
 go_loopw [3, 4, 5] (fun _ _ _ wr => ∃ n f : Nat, n ≤ s.size ∧ s.size ≤ n + f ∧ Hid (Lx.gap f (Lx.tl s n) = (r, ok)) ∧ Lx.Scan wr B s n ∧ Lx.Chg B w wr) (fun _ _ _ wr => Lx.left B s wr)
 case atStart => exact ⟨at0, f0, ha, hf, HG, h, Lx.Chg.refl _ _⟩
 case round =>
  obtain ⟨n, f, hn, hnf, HM, hsc, hch⟩ := hrel
  obtain ⟨c0, hc0⟩ : ∃ c, Hid (Lx.pk (Lx.tl s n) 0 = c) := ⟨_, rfl⟩
  obtain ⟨c1, hc1⟩ : ∃ c, Hid (Lx.pk (Lx.tl s n) 1 = c) := ⟨_, rfl⟩
  have hcell := hsc.c1
  have hcel0 := hsc.c0
  have hfz := hsc.fz 1
  have HL := Lib.hid (Lx.left_eq hsc)
  by_cases hlt : n < s.size
  case neg =>
   have hM := HM.out
   rw [Lx.tl_nil s n (by omega), Lx.gap_nil] at hM
   obtain ⟨rfl, rfl⟩ : ([] : List UInt8) = r ∧ true = ok := by injection hM with h1 h2; exact ⟨h1, h2⟩
   have HR : Hid (([] : List UInt8) = Lx.tl s n) := (Lx.tl_nil s n (by omega)).symm
   have hge : (s.size : Int) ≤ (n : Int) := by omega
   clear hM hlt
   go_wp2
   go_quiet (fail)
   go_wp2
   go_ret
   exact ⟨n, rfl, HR.out, hn, hsc.drew _, hch.drew _⟩
  obtain ⟨f, rfl⟩ : ∃ g, f = g + 1 := ⟨f - 1, by omega⟩
  have hM := (Lx.gap_step f s n hlt).symm.trans HM.out
  rw [hc0.out, hc1.out] at hM
  have hlt' : (n : Int) < (s.size : Int) := by omega
  have hle' : (n : Int) ≤ (s.size : Int) := by omega
  by_cases hw : Lx.white c0 = true
  ·rw [if_pos hw] at hM
   have HM2 := Lib.hid hM
   clear hM
   go_wp2
   go_quiet (fail)
   go_wp2_with fail
   refine (peek0d B n _ s _ hsc hs hn _ hc0).mono ?_; rintro e w1 ⟨rfl, k1, rfl⟩
   go_wp2_with fail
   refine (white_any _ _).mono ?_; rintro e w1 ⟨rfl, rfl⟩
   go_wp2
   go_roundw
   case rel => exact ⟨n + 1, f, by omega, by omega, HM2, (hsc.drew _).step' _ _ (by omega), (hch.drew _).setCell _ _⟩
   case measure => rw [Lx.left_eq ((hsc.drew _).step' _ (n + 1) (by omega)), HL.out]; omega
  have hwf : Lx.white c0 = false := by simpa using hw
  rw [if_neg hw] at hM
  clear hw
  have b59 := Lx.beq_nat c0 59 (by omega)
  cases f59 : ((c0.toNat : Int) == 59)
  case true =>
   rw [show (c0 == 59) = true from b59.trans f59, if_pos rfl] at hM
   have hd := Lx.idx_drop (Lx.tl s n) 10
   rcases hd with ⟨h1, h2⟩ | ⟨i, h1, h2, h3⟩
   ·have HM2 : Hid (Lx.gap f (Lx.tl s s.size) = (r, ok)) := by rw [h2] at hM; rw [Lx.tl_nil s s.size (Nat.le_refl _)]; exact hM
    rw [← Lx.ext_tl s n] at h1
    clear hM h2 b59
    have hsub : IntKind.i64.wrap ((s.size : Int) - (n : Int)) = (s.size : Int) - (n : Int) := IntWalk.i64_in _ (by omega)
    have H1 := Lib.hid h1
    clear h1
    go_wp2
    go_quiet (fail)
    go_wp2_with fail
    refine (peek0d B n _ s _ hsc hs hn _ hc0).mono ?_; rintro e w1 ⟨rfl, k1, rfl⟩
    go_wp2_with fail
    refine (white_any _ _).mono ?_; rintro e w1 ⟨rfl, rfl⟩
    go_wp2_with fail
    go_quiet ((go_at_call 61; exact quiet_add_same (IndexByte_10 _ _)))
    rw [H1.out]
    go_wp2
    go_quiet (fail)
    go_wp2
    go_roundw
    case rel => exact ⟨s.size, f, by omega, by omega, HM2, (hsc.drew _).step' _ _ (by omega), (hch.drew _).setCell _ _⟩
    case measure => rw [Lx.left_eq ((hsc.drew _).step' _ s.size (by omega)), HL.out]; omega
   ·rw [h3, show (Lx.tl s n).drop i = Lx.tl s (n + i) by unfold Lx.tl; rw [List.drop_drop]] at hM
    have HM2 := Lib.hid hM
    rw [Lx.tl_len] at h2
    have hi0 : 0 < i := by
     apply Classical.byContradiction
     intro h0
     obtain rfl : i = 0 := by omega
     rw [Lx.tl_pk s n hlt, hc0.out] at h3
     have h10 : c0 = 59 := by have := b59.trans f59; simpa using this
     rw [h10] at h3
     have := congrArg List.length h3
     simp only [List.dropWhile_cons, List.drop_zero, List.length_cons] at this
     have h4 := (List.dropWhile_sublist (· != 10) (l := Lx.tl s (n + 1))).length_le
     simp only [show ((59 : UInt8) != 10) = true from rfl, if_true] at this
     omega
    rw [← Lx.ext_tl s n] at h1
    clear hM h3 b59
    have H1 := Lib.hid h1
    clear h1
    go_wp2
    go_quiet (fail)
    go_wp2_with fail
    refine (peek0d B n _ s _ hsc hs hn _ hc0).mono ?_; rintro e w1 ⟨rfl, k1, rfl⟩
    go_wp2_with fail
    refine (white_any _ _).mono ?_; rintro e w1 ⟨rfl, rfl⟩
    go_wp2_with fail
    go_quiet ((go_at_call 61; exact quiet_add_same (IndexByte_10 _ _)))
    rw [H1.out]
    go_wp2
    go_roundw
    case rel => exact ⟨n + i, f, by omega, by omega, HM2, (hsc.drew _).step' _ _ (by omega), (hch.drew _).setCell _ _⟩
    case measure => rw [Lx.left_eq ((hsc.drew _).step' _ (n + i) (by omega)), HL.out]; omega
  rw [show (c0 == 59) = false from b59.trans f59, if_neg (by decide)] at hM
  have b35 := Lx.beq_nat c0 35 (by omega)
  have b124 := Lx.beq_nat c1 124 (by omega)
  cases f35 : ((c0.toNat : Int) == 35)
  ·rw [show (c0 == 35) = false from b35.trans f35, Bool.false_and, if_neg (by decide)] at hM
   obtain ⟨rfl, rfl⟩ : Lx.tl s n = r ∧ true = ok := by injection hM with h1 h2; exact ⟨h1, h2⟩
   clear hM b35 b124 b59
   go_wp2
   go_quiet (fail)
   go_wp2_with fail
   refine (peek0d B n _ s _ hsc hs hn _ hc0).mono ?_; rintro e w1 ⟨rfl, k1, rfl⟩
   go_wp2_with fail
   refine (white_any _ _).mono ?_; rintro e w1 ⟨rfl, rfl⟩
   go_wp2
   go_ret
   exact ⟨n, rfl, rfl, hn, hsc.drew _, hch.drew _⟩
  cases f124 : ((c1.toNat : Int) == 124)
  ·rw [show (c1 == 124) = false from b124.trans f124, Bool.and_false, if_neg (by decide)] at hM
   obtain ⟨rfl, rfl⟩ : Lx.tl s n = r ∧ true = ok := by injection hM with h1 h2; exact ⟨h1, h2⟩
   clear hM b35 b124 b59
   go_wp2
   go_quiet (fail)
   go_wp2_with fail
   refine (peek0d B n _ s _ hsc hs hn _ hc0).mono ?_; rintro e w1 ⟨rfl, k1, rfl⟩
   go_wp2_with fail
   refine (white_any _ _).mono ?_; rintro e w1 ⟨rfl, rfl⟩
   go_wp2_with fail
   refine (peek1d B n _ s _ hsc hs hn _ hc1).mono ?_; rintro e w1 ⟨rfl, k2, rfl⟩
   go_wp2
   go_ret
   exact ⟨n, rfl, rfl, hn, hsc.drew _, hch.drew _⟩
  have e35 : c0 = 35 := by have := b35.trans f35; simpa using this
  have e124 : c1 = 124 := by have := b124.trans f124; simpa using this
  rw [e35, e124, if_pos (by decide)] at hM
  have p35 : Lx.pk (Lx.tl s n) 0 = 35 := hc0.out.trans e35
  have p124 : Lx.pk (Lx.tl s n) 1 = 124 := hc1.out.trans e124
  cases hcom : Lx.com (Lx.tl s n) 0 with
  | none =>
   rw [hcom] at hM
   obtain ⟨rfl, rfl⟩ : Lx.tl s n = r ∧ false = ok := by injection hM with h1 h2; exact ⟨h1, h2⟩
   have HCN := Lib.hid (fun w' hsc' => comment_no B n s w' hsc' hs hn hcom p35 p124)
   clear hM b35 b124 b59 e35 e124 p35 p124 hcom
   go_wp2
   go_quiet (fail)
   go_wp2_with fail
   refine (peek0d B n _ s _ hsc hs hn _ hc0).mono ?_; rintro e w1 ⟨rfl, k1, rfl⟩
   go_wp2_with fail
   refine (white_any _ _).mono ?_; rintro e w1 ⟨rfl, rfl⟩
   go_wp2_with fail
   refine (peek1d B n _ s _ hsc hs hn _ hc1).mono ?_; rintro e w1 ⟨rfl, k2, rfl⟩
   go_wp2_with fail
   refine (HCN.out _ (hsc.drew _)).mono ?_
   rintro e w2 ⟨m, rfl, hsc2, hch2⟩
   have hcell2 := hsc2.c1
   have hfz2 := hsc2.fz 1
   go_wp2
   go_ret
   exact ⟨n, rfl, rfl, hn, hsc2.step' _ _ rfl, ((hch.drew _).trans hch2).setCell _ _⟩
  | some r' =>
   rw [hcom] at hM
   have HM2 := Lib.hid hM
   have hlen := Lx.com_len _ _ _ _ (Nat.le_refl _) hcom
   have HCY := Lib.hid (fun w' hsc' => comment_yes B n s r' w' hsc' hs hn hcom p35 p124)
   clear hM b35 b124 b59 e35 e124 p35 p124 hcom
   go_wp2
   go_quiet (fail)
   go_wp2_with fail
   refine (peek0d B n _ s _ hsc hs hn _ hc0).mono ?_; rintro e w1 ⟨rfl, k1, rfl⟩
   go_wp2_with fail
   refine (white_any _ _).mono ?_; rintro e w1 ⟨rfl, rfl⟩
   go_wp2_with fail
   refine (peek1d B n _ s _ hsc hs hn _ hc1).mono ?_; rintro e w1 ⟨rfl, k2, rfl⟩
   go_wp2_with fail
   refine (HCY.out _ (hsc.drew _)).mono ?_
   rintro e w2 ⟨m, rfl, hr, hm, hsc2, hch2⟩
   rw [hr, Lx.tl_len, Lx.tl_len] at hlen
   have HR := Lib.hid hr
   clear hr
   go_wp2
   go_roundw
   case rel => exact ⟨m, f, hm, by omega, by rw [← HR.out]; exact HM2, hsc2, (hch.drew _).trans hch2⟩
   case measure => rw [Lx.left_eq hsc2, HL.out]; omega
end Go.Proofs.Ytcopdfihaheplaa
