/-
 The walks of the comment and the gap of the package lex.
-/
import Derived.Test.YtcopdfihaheplaaLexBase
namespace Go.Proofs.Ytcopdfihaheplaa
open Go.RowKit
namespace Lx
structure Chg (B : Nat) (w w' : World) : Prop where
 os : w'.os = w.os
 tape : w'.tape = w.tape
 output : w'.output = w.output
 size : w.heap.size ≤ w'.heap.size
 block : ∀ k, k < w.heap.size → k ≠ B → w'.heap[k]? = w.heap[k]?
theorem Chg.refl (B : Nat) (w : World) : Chg B w w := ⟨rfl, rfl, rfl, Nat.le_refl _, fun _ _ _ => rfl⟩
theorem Chg.trans {B : Nat} {a b c : World} (h : Chg B a b) (k : Chg B b c) : Chg B a c :=
 ⟨k.os.trans h.os, k.tape.trans h.tape, k.output.trans h.output, Nat.le_trans h.size k.size, fun i hi hne => (k.block i (Nat.lt_of_lt_of_le hi h.size) hne).trans (h.block i hi hne)⟩
theorem Chg.drew {B : Nat} {a w : World} (h : Chg B a w) (n : Nat) : Chg B a (w.drewN n) := ⟨h.os, h.tape, h.output, h.size, h.block⟩
theorem Chg.setCell {B : Nat} {a w : World} (h : Chg B a w) (j : Nat) (v : Value) : Chg B a (w.setCell ⟨B, j, none⟩ v) :=
 h.trans ⟨rfl, rfl, rfl, by simp [World.setCell], fun k _ hne => Below.heap_setCell _ _ _ _ hne⟩
theorem Chg.of_below {B : Nat} {w w' : World} (h : Below w.heap.size w w') : Chg B w w' := ⟨h.os, h.tape, h.output, h.size, fun k hk _ => h.block k hk⟩
theorem Chg.below {B n : Nat} {w w' : World} (h : Chg B w w') (hB : n ≤ B) (hn : n ≤ w.heap.size) : Below n w w' := ⟨h.os, h.tape, h.output, h.size, fun k hk => h.block k (by omega) (by omega)⟩
theorem Scan.step {w : World} {B : Nat} {s : ByteArray} {at_ : Nat} (h : Scan w B s at_) (n : Nat) : Scan (w.setCell ⟨B, 1, none⟩ (.int .i64 (n : Int))) B s n :=
 ⟨by rw [World.cell?_setCell_other _ _ _ _ (by simp)]; exact h.c0, World.cell?_setCell_same _ _ _ h.c1, fun j => by rw [World.frozen?_setCell]; exact h.fz j, by simpa [World.setCell] using h.lt⟩
theorem Scan.step' {w : World} {B : Nat} {s : ByteArray} {at_ : Nat} (h : Scan w B s at_) (i : Int) (n : Nat) (e : i = (n : Int)) : Scan (w.setCell ⟨B, 1, none⟩ (.int .i64 i)) B s n := e ▸ h.step n
theorem pk_lt {s : ByteArray} {at_ n : Nat} {c : UInt8} (h : pk (tl s at_) n = c) (hc : c ≠ 0) : at_ + n < s.size := by
 apply Classical.byContradiction
 intro hn
 rw [pk_out s at_ n (by omega)] at h
 exact hc h.symm
theorem tl_pk (s : ByteArray) (at_ : Nat) (h : at_ < s.size) : tl s at_ = pk (tl s at_) 0 :: tl s (at_ + 1) := by
 rw [pk_in s at_ 0 h]; exact tl_cons s at_ h
theorem pk_succ (s : ByteArray) (at_ n : Nat) : pk (tl s at_) (n + 1) = pk (tl s (at_ + 1)) n := by
 unfold pk tl
 rw [List.getD_eq_getElem?_getD, List.getD_eq_getElem?_getD, List.getElem?_drop, List.getElem?_drop]
 congr 2
 omega
theorem head_pk (s : ByteArray) (at_ : Nat) (c : UInt8) (hc : c ≠ 0) : ((tl s at_).head? == some c) = (pk (tl s at_) 0 == c) := by
 by_cases h : at_ < s.size
 ·rw [tl_pk s at_ h]
  simp [pk]
 ·rw [tl_nil s at_ (by omega)]
  have : (pk [] 0 == c) = false := by simpa [pk] using fun e => hc e.symm
  rw [this]; rfl
theorem tl_tail (s : ByteArray) (at_ : Nat) : (tl s at_).tail = tl s (at_ + 1) := by
 unfold tl; rw [List.tail_drop]
theorem com_two (s : ByteArray) (at_ o : Nat) (h : at_ < s.size) : com (tl s at_) o =
  if pk (tl s at_) 0 == 35 && pk (tl s at_) 1 == 124 then com (tl s (at_ + 2)) (o + 1)
  else if pk (tl s at_) 0 == 124 && pk (tl s at_) 1 == 35 then (if o ≤ 1 then some (tl s (at_ + 2)) else com (tl s (at_ + 2)) (o - 1))
  else com (tl s (at_ + 1)) o := by
 conv => lhs; rw [tl_pk s at_ h, com]
 rw [head_pk s (at_ + 1) 124 (by decide), head_pk s (at_ + 1) 35 (by decide), tl_tail, ← pk_succ]
theorem com_end (s : ByteArray) (at_ o : Nat) (h : s.size ≤ at_) : com (tl s at_) o = none := by
 rw [tl_nil s at_ h, com]
def ComYes (B : Nat) (s : ByteArray) (r : List UInt8) (w : World) (e : Ending) (w' : World) : Prop :=
 ∃ n, e = .returned (.bool true) ∧ r = tl s n ∧ n ≤ s.size ∧ Scan w' B s n ∧ Chg B w w'
def ComNo (B : Nat) (s : ByteArray) (w : World) (e : Ending) (w' : World) : Prop :=
 ∃ n, e = .returned (.bool false) ∧ Scan w' B s n ∧ Chg B w w'
end Lx
theorem peek0 (B at_ : Nat) (s : ByteArray) (w : World) (h : Lx.Scan w B s at_) (hs : s.size ≤ 4611686018427387904) (ha : at_ ≤ s.size) (c : UInt8) (hc : Hid (Lx.pk (Lx.tl s at_) 0 = c)) :
  Calls Try.prog 60 #[.pointer (some ⟨B, 0, none⟩), .int .i64 0] w fun e w' => e = .returned (.int .u8 (c.toNat : Int)) ∧ ∃ k, w' = w.drewN k := by
 have := peek_any B at_ 0 s w h (by omega) (by omega) (by simp; omega)
 rw [show (0 : Int).toNat = 0 from rfl, hc.out] at this
 exact this
theorem peek1 (B at_ : Nat) (s : ByteArray) (w : World) (h : Lx.Scan w B s at_) (hs : s.size ≤ 4611686018427387904) (ha : at_ ≤ s.size) (c : UInt8) (hc : Hid (Lx.pk (Lx.tl s at_) 1 = c)) :
  Calls Try.prog 60 #[.pointer (some ⟨B, 0, none⟩), .int .i64 1] w fun e w' => e = .returned (.int .u8 (c.toNat : Int)) ∧ ∃ k, w' = w.drewN k := by
 have := peek_any B at_ 1 s w h (by omega) (by omega) (by simp; omega)
 rw [show (1 : Int).toNat = 1 from rfl, hc.out] at this
 exact this
theorem peek0d (B at_ k : Nat) (s : ByteArray) (w : World) (h : Lx.Scan w B s at_) (hs : s.size ≤ 4611686018427387904) (ha : at_ ≤ s.size) (c : UInt8) (hc : Hid (Lx.pk (Lx.tl s at_) 0 = c)) :
  Calls Try.prog 60 #[.pointer (some ⟨B, 0, none⟩), .int .i64 0] (w.drewN k) fun e w' => e = .returned (.int .u8 (c.toNat : Int)) ∧ ∃ k, w' = w.drewN k :=
 (peek0 B at_ s _ (h.drew k) hs ha c hc).mono fun _ _ ⟨h1, m, h2⟩ => ⟨h1, k + m, by rw [h2, World.drewN_drewN]⟩
theorem peek1d (B at_ k : Nat) (s : ByteArray) (w : World) (h : Lx.Scan w B s at_) (hs : s.size ≤ 4611686018427387904) (ha : at_ ≤ s.size) (c : UInt8) (hc : Hid (Lx.pk (Lx.tl s at_) 1 = c)) :
  Calls Try.prog 60 #[.pointer (some ⟨B, 0, none⟩), .int .i64 1] (w.drewN k) fun e w' => e = .returned (.int .u8 (c.toNat : Int)) ∧ ∃ k, w' = w.drewN k :=
 (peek1 B at_ s _ (h.drew k) hs ha c hc).mono fun _ _ ⟨h1, m, h2⟩ => ⟨h1, k + m, by rw [h2, World.drewN_drewN]⟩
def Lx.left (B : Nat) (s : ByteArray) (w : World) : Nat := s.size + 1 - (intOf ((w.cell? ⟨B, 1, none⟩).getD undef)).toNat
theorem Lx.left_eq {w : World} {B : Nat} {s : ByteArray} {at_ : Nat} (h : Lx.Scan w B s at_) : Lx.left B s w = s.size + 1 - at_ := by
 unfold Lx.left; rw [h.c1]; simp [intOf]
set_option maxRecDepth 100000 in
set_option maxHeartbeats 1000000 in
theorem comment_yes (B at0 : Nat) (s : ByteArray) (r : List UInt8) (w : World) (h : Lx.Scan w B s at0) (hs : s.size ≤ 4611686018427387904) (ha : at0 ≤ s.size)
  (hc : Lx.com (Lx.tl s at0) 0 = some r) (h35 : Lx.pk (Lx.tl s at0) 0 = 35) (h124 : Lx.pk (Lx.tl s at0) 1 = 124) :
  Calls Try.prog 62 #[.pointer (some ⟨B, 0, none⟩)] w (Lx.ComYes B s r w) := by
 have HC := Lib.hid hc
 have H35 := Lib.hid h35
 have H124 := Lib.hid h124
 clear hc h35 h124
 go_enter Try.func62, Try.ntmps62
 go_wp2_with fail
 go_loopw [3] (fun op wr => ∃ n o : Nat, op = .int .i64 o ∧ o ≤ n ∧ n ≤ s.size ∧ Hid (Lx.com (Lx.tl s n) o = some r) ∧ Lx.Scan wr B s n ∧ Lx.Chg B w wr ∧ Hid (o = 0 → Lx.pk (Lx.tl s n) 0 = 35 ∧ Lx.pk (Lx.tl s n) 1 = 124)) (fun _ wr => Lx.left B s wr)
 case atStart => exact ⟨at0, 0, rfl, by omega, ha, HC, h, Lx.Chg.refl _ _, fun _ => ⟨H35.out, H124.out⟩⟩
 case round =>
  obtain ⟨n, o, rfl, hon, hn, HM, hsc, hch, HO⟩ := hrel
  obtain ⟨c0, hc0⟩ : ∃ c, Hid (Lx.pk (Lx.tl s n) 0 = c) := ⟨_, rfl⟩
  obtain ⟨c1, hc1⟩ : ∃ c, Hid (Lx.pk (Lx.tl s n) 1 = c) := ⟨_, rfl⟩
  have hcell := hsc.c1
  have hcel0 := hsc.c0
  have hfz := hsc.fz 1
  have HL := Lib.hid (Lx.left_eq hsc)
  by_cases ho : c0 = 35 ∧ c1 = 124
  ·obtain ⟨rfl, rfl⟩ := ho
   have hlt := Lx.pk_lt hc1.out (by decide)
   have HM2 : Hid (Lx.com (Lx.tl s (n + 2)) (o + 1) = some r) := by
    have := Lx.com_two s n o (by omega)
    rw [hc0.out, hc1.out] at this
    exact this.symm.trans HM.out
   have hne : (((o : Int) + 1) == 0) = false := beq_eq_false_iff_ne.2 (by omega)
   go_wp2_with fail
   refine (peek0 B n s _ hsc hs hn _ hc0).mono ?_; rintro e w1 ⟨rfl, k1, rfl⟩
   go_wp2_with fail
   refine (peek1d B n _ s _ hsc hs hn _ hc1).mono ?_; rintro e w1 ⟨rfl, k2, rfl⟩
   go_wp2
   go_roundw
   case rel => exact ⟨n + 2, o + 1, by go_num, by omega, by omega, HM2, (hsc.drew _).step' _ _ (by omega), (hch.drew _).setCell _ _, fun h0 => absurd h0 (by omega)⟩
   case measure => rw [Lx.left_eq ((hsc.drew _).step' _ (n + 2) (by omega)), HL.out]; omega
  have HN : Hid (¬(c0 = 35 ∧ c1 = 124)) := ho
  have ho1 : 0 < o := by
   apply Classical.byContradiction
   intro h0
   have := HO.out (by omega)
   rw [hc0.out, hc1.out] at this
   exact ho this
  clear ho
  by_cases hcl : c0 = 124 ∧ c1 = 35
  ·obtain ⟨rfl, rfl⟩ := hcl
   have hlt := Lx.pk_lt hc1.out (by decide)
   have hM2 : (if o ≤ 1 then some (Lx.tl s (n + 2)) else Lx.com (Lx.tl s (n + 2)) (o - 1)) = some r := by
    have := Lx.com_two s n o (by omega)
    rw [hc0.out, hc1.out] at this
    exact this.symm.trans HM.out
   by_cases ho2 : o ≤ 1
   ·rw [if_pos ho2] at hM2
    obtain rfl : o = 1 := by omega
    have HR : Hid (r = Lx.tl s (n + 2)) := by injection hM2 with hM2; exact hM2.symm
    clear hM2
    go_wp2_with fail
    refine (peek0 B n s _ hsc hs hn _ hc0).mono ?_; rintro e w1 ⟨rfl, k1, rfl⟩
    go_wp2_with fail
    refine (peek0d B n _ s _ hsc hs hn _ hc0).mono ?_; rintro e w1 ⟨rfl, k2, rfl⟩
    go_wp2_with fail
    refine (peek1d B n _ s _ hsc hs hn _ hc1).mono ?_; rintro e w1 ⟨rfl, k3, rfl⟩
    go_wp2
    go_ret
    exact ⟨n + 2, rfl, HR.out, by omega, (hsc.drew _).step' _ _ (by omega), (hch.drew _).setCell _ _⟩
   ·rw [if_neg ho2] at hM2
    have HM2 := Lib.hid hM2
    clear hM2
    obtain ⟨q, rfl⟩ : ∃ q, o = q + 2 := ⟨o - 2, by omega⟩
    have hne : (((q : Int) + 1) == 0) = false := beq_eq_false_iff_ne.2 (by omega)
    have hne2 : (((q : Int) + 2 - 1) == 0) = false := beq_eq_false_iff_ne.2 (by omega)
    go_wp2_with fail
    refine (peek0 B n s _ hsc hs hn _ hc0).mono ?_; rintro e w1 ⟨rfl, k1, rfl⟩
    go_wp2_with fail
    refine (peek0d B n _ s _ hsc hs hn _ hc0).mono ?_; rintro e w1 ⟨rfl, k2, rfl⟩
    go_wp2_with fail
    refine (peek1d B n _ s _ hsc hs hn _ hc1).mono ?_; rintro e w1 ⟨rfl, k3, rfl⟩
    go_wp2
    go_roundw
    case rel => exact ⟨n + 2, q + 1, congrArg (Value.int .i64) (by omega), by omega, by omega, HM2, (hsc.drew _).step' _ _ (by omega), (hch.drew _).setCell _ _, fun h0 => absurd h0 (by omega)⟩
    case measure => rw [Lx.left_eq ((hsc.drew _).step' _ (n + 2) (by omega)), HL.out]; omega
  have HN2 : Hid (¬(c0 = 124 ∧ c1 = 35)) := hcl
  clear hcl
  by_cases hlt : n < s.size
  ·have hne : ((o : Int) == 0) = false := beq_eq_false_iff_ne.2 (by omega)
   have HM2 : Hid (Lx.com (Lx.tl s (n + 1)) o = some r) := by
    have := Lx.com_two s n o hlt
    rw [hc0.out, hc1.out, if_neg (by simpa using HN.out), if_neg (by simpa using HN2.out)] at this
    exact this.symm.trans HM.out
   have hlt' : (n : Int) < (s.size : Int) := by omega
   by_cases h35 : c0 = 35
   ·subst h35
    have h1 : c1 ≠ 124 := fun e => HN.out ⟨rfl, e⟩
    have f1 : ((c1.toNat : Int) == 124) = false := (Lx.beq_nat c1 124 (by omega)).symm.trans (beq_eq_false_iff_ne.2 h1)
    clear h1
    go_wp2_with fail
    refine (peek0 B n s _ hsc hs hn _ hc0).mono ?_; rintro e w1 ⟨rfl, k1, rfl⟩
    go_wp2_with fail
    refine (peek1d B n _ s _ hsc hs hn _ hc1).mono ?_; rintro e w1 ⟨rfl, k2, rfl⟩
    go_wp2_with fail
    refine (peek0d B n _ s _ hsc hs hn _ hc0).mono ?_; rintro e w1 ⟨rfl, k3, rfl⟩
    go_wp2_with fail
    go_quiet (fail)
    go_wp2
    go_roundw
    case rel => exact ⟨n + 1, o, rfl, by omega, by omega, HM2, (hsc.drew _).step' _ _ (by omega), (hch.drew _).setCell _ _, fun h0 => absurd h0 (by omega)⟩
    case measure => rw [Lx.left_eq ((hsc.drew _).step' _ (n + 1) (by omega)), HL.out]; omega
   ·have f0 : ((c0.toNat : Int) == 35) = false := (Lx.beq_nat c0 35 (by omega)).symm.trans (beq_eq_false_iff_ne.2 h35)
    clear h35
    by_cases h124 : c0 = 124
    ·subst h124
     have h1 : c1 ≠ 35 := fun e => HN2.out ⟨rfl, e⟩
     have f1 : ((c1.toNat : Int) == 35) = false := (Lx.beq_nat c1 35 (by omega)).symm.trans (beq_eq_false_iff_ne.2 h1)
     clear h1
     go_wp2_with fail
     refine (peek0 B n s _ hsc hs hn _ hc0).mono ?_; rintro e w1 ⟨rfl, k1, rfl⟩
     go_wp2_with fail
     refine (peek0d B n _ s _ hsc hs hn _ hc0).mono ?_; rintro e w1 ⟨rfl, k2, rfl⟩
     go_wp2_with fail
     refine (peek1d B n _ s _ hsc hs hn _ hc1).mono ?_; rintro e w1 ⟨rfl, k3, rfl⟩
     go_wp2_with fail
     go_quiet (fail)
     go_wp2
     go_roundw
     case rel => exact ⟨n + 1, o, rfl, by omega, by omega, HM2, (hsc.drew _).step' _ _ (by omega), (hch.drew _).setCell _ _, fun h0 => absurd h0 (by omega)⟩
     case measure => rw [Lx.left_eq ((hsc.drew _).step' _ (n + 1) (by omega)), HL.out]; omega
    ·have f2 : ((c0.toNat : Int) == 124) = false := (Lx.beq_nat c0 124 (by omega)).symm.trans (beq_eq_false_iff_ne.2 h124)
     clear h124
     go_wp2_with fail
     refine (peek0 B n s _ hsc hs hn _ hc0).mono ?_; rintro e w1 ⟨rfl, k1, rfl⟩
     go_wp2_with fail
     refine (peek0d B n _ s _ hsc hs hn _ hc0).mono ?_; rintro e w1 ⟨rfl, k2, rfl⟩
     go_wp2_with fail
     go_quiet (fail)
     go_wp2
     go_roundw
     case rel => exact ⟨n + 1, o, rfl, by omega, by omega, HM2, (hsc.drew _).step' _ _ (by omega), (hch.drew _).setCell _ _, fun h0 => absurd h0 (by omega)⟩
     case measure => rw [Lx.left_eq ((hsc.drew _).step' _ (n + 1) (by omega)), HL.out]; omega
  ·have hE : n = s.size := by omega
   have HE : Hid (Lx.com (Lx.tl s n) o = none) := Lx.com_end s n o (by omega)
   have := HM.out
   rw [HE.out] at this; cases this
set_option maxRecDepth 100000 in
set_option maxHeartbeats 1000000 in
theorem comment_no (B at0 : Nat) (s : ByteArray) (w : World) (h : Lx.Scan w B s at0) (hs : s.size ≤ 4611686018427387904) (ha : at0 ≤ s.size)
  (hc : Lx.com (Lx.tl s at0) 0 = none) (h35 : Lx.pk (Lx.tl s at0) 0 = 35) (h124 : Lx.pk (Lx.tl s at0) 1 = 124) :
  Calls Try.prog 62 #[.pointer (some ⟨B, 0, none⟩)] w (Lx.ComNo B s w) := by
 have HC := Lib.hid hc
 have H35 := Lib.hid h35
 have H124 := Lib.hid h124
 clear hc h35 h124
 go_enter Try.func62, Try.ntmps62
 go_wp2_with fail
 go_loopw [3] (fun op wr => ∃ n o : Nat, op = .int .i64 o ∧ o ≤ n ∧ n ≤ s.size ∧ Hid (Lx.com (Lx.tl s n) o = none) ∧ Lx.Scan wr B s n ∧ Lx.Chg B w wr ∧ Hid (o = 0 → Lx.pk (Lx.tl s n) 0 = 35 ∧ Lx.pk (Lx.tl s n) 1 = 124)) (fun _ wr => Lx.left B s wr)
 case atStart => exact ⟨at0, 0, rfl, by omega, ha, HC, h, Lx.Chg.refl _ _, fun _ => ⟨H35.out, H124.out⟩⟩
 case round =>
  obtain ⟨n, o, rfl, hon, hn, HM, hsc, hch, HO⟩ := hrel
  obtain ⟨c0, hc0⟩ : ∃ c, Hid (Lx.pk (Lx.tl s n) 0 = c) := ⟨_, rfl⟩
  obtain ⟨c1, hc1⟩ : ∃ c, Hid (Lx.pk (Lx.tl s n) 1 = c) := ⟨_, rfl⟩
  have hcell := hsc.c1
  have hcel0 := hsc.c0
  have hfz := hsc.fz 1
  have HL := Lib.hid (Lx.left_eq hsc)
  by_cases ho : c0 = 35 ∧ c1 = 124
  ·obtain ⟨rfl, rfl⟩ := ho
   have hlt := Lx.pk_lt hc1.out (by decide)
   have HM2 : Hid (Lx.com (Lx.tl s (n + 2)) (o + 1) = none) := by
    have := Lx.com_two s n o (by omega)
    rw [hc0.out, hc1.out] at this
    exact this.symm.trans HM.out
   have hne : (((o : Int) + 1) == 0) = false := beq_eq_false_iff_ne.2 (by omega)
   go_wp2_with fail
   refine (peek0 B n s _ hsc hs hn _ hc0).mono ?_; rintro e w1 ⟨rfl, k1, rfl⟩
   go_wp2_with fail
   refine (peek1d B n _ s _ hsc hs hn _ hc1).mono ?_; rintro e w1 ⟨rfl, k2, rfl⟩
   go_wp2
   go_roundw
   case rel => exact ⟨n + 2, o + 1, by go_num, by omega, by omega, HM2, (hsc.drew _).step' _ _ (by omega), (hch.drew _).setCell _ _, fun h0 => absurd h0 (by omega)⟩
   case measure => rw [Lx.left_eq ((hsc.drew _).step' _ (n + 2) (by omega)), HL.out]; omega
  have HN : Hid (¬(c0 = 35 ∧ c1 = 124)) := ho
  have ho1 : 0 < o := by
   apply Classical.byContradiction
   intro h0
   have := HO.out (by omega)
   rw [hc0.out, hc1.out] at this
   exact ho this
  clear ho
  by_cases hcl : c0 = 124 ∧ c1 = 35
  ·obtain ⟨rfl, rfl⟩ := hcl
   have hlt := Lx.pk_lt hc1.out (by decide)
   have hM2 : (if o ≤ 1 then some (Lx.tl s (n + 2)) else Lx.com (Lx.tl s (n + 2)) (o - 1)) = none := by
    have := Lx.com_two s n o (by omega)
    rw [hc0.out, hc1.out] at this
    exact this.symm.trans HM.out
   by_cases ho2 : o ≤ 1
   ·rw [if_pos ho2] at hM2; cases hM2
   ·rw [if_neg ho2] at hM2
    have HM2 := Lib.hid hM2
    clear hM2
    obtain ⟨q, rfl⟩ : ∃ q, o = q + 2 := ⟨o - 2, by omega⟩
    have hne : (((q : Int) + 1) == 0) = false := beq_eq_false_iff_ne.2 (by omega)
    have hne2 : (((q : Int) + 2 - 1) == 0) = false := beq_eq_false_iff_ne.2 (by omega)
    go_wp2_with fail
    refine (peek0 B n s _ hsc hs hn _ hc0).mono ?_; rintro e w1 ⟨rfl, k1, rfl⟩
    go_wp2_with fail
    refine (peek0d B n _ s _ hsc hs hn _ hc0).mono ?_; rintro e w1 ⟨rfl, k2, rfl⟩
    go_wp2_with fail
    refine (peek1d B n _ s _ hsc hs hn _ hc1).mono ?_; rintro e w1 ⟨rfl, k3, rfl⟩
    go_wp2
    go_roundw
    case rel => exact ⟨n + 2, q + 1, congrArg (Value.int .i64) (by omega), by omega, by omega, HM2, (hsc.drew _).step' _ _ (by omega), (hch.drew _).setCell _ _, fun h0 => absurd h0 (by omega)⟩
    case measure => rw [Lx.left_eq ((hsc.drew _).step' _ (n + 2) (by omega)), HL.out]; omega
  have HN2 : Hid (¬(c0 = 124 ∧ c1 = 35)) := hcl
  clear hcl
  by_cases hlt : n < s.size
  ·have hne : ((o : Int) == 0) = false := beq_eq_false_iff_ne.2 (by omega)
   have HM2 : Hid (Lx.com (Lx.tl s (n + 1)) o = none) := by
    have := Lx.com_two s n o hlt
    rw [hc0.out, hc1.out, if_neg (by simpa using HN.out), if_neg (by simpa using HN2.out)] at this
    exact this.symm.trans HM.out
   have hlt' : (n : Int) < (s.size : Int) := by omega
   by_cases h35 : c0 = 35
   ·subst h35
    have h1 : c1 ≠ 124 := fun e => HN.out ⟨rfl, e⟩
    have f1 : ((c1.toNat : Int) == 124) = false := (Lx.beq_nat c1 124 (by omega)).symm.trans (beq_eq_false_iff_ne.2 h1)
    clear h1
    go_wp2_with fail
    refine (peek0 B n s _ hsc hs hn _ hc0).mono ?_; rintro e w1 ⟨rfl, k1, rfl⟩
    go_wp2_with fail
    refine (peek1d B n _ s _ hsc hs hn _ hc1).mono ?_; rintro e w1 ⟨rfl, k2, rfl⟩
    go_wp2_with fail
    refine (peek0d B n _ s _ hsc hs hn _ hc0).mono ?_; rintro e w1 ⟨rfl, k3, rfl⟩
    go_wp2_with fail
    go_quiet (fail)
    go_wp2
    go_roundw
    case rel => exact ⟨n + 1, o, rfl, by omega, by omega, HM2, (hsc.drew _).step' _ _ (by omega), (hch.drew _).setCell _ _, fun h0 => absurd h0 (by omega)⟩
    case measure => rw [Lx.left_eq ((hsc.drew _).step' _ (n + 1) (by omega)), HL.out]; omega
   ·have f0 : ((c0.toNat : Int) == 35) = false := (Lx.beq_nat c0 35 (by omega)).symm.trans (beq_eq_false_iff_ne.2 h35)
    clear h35
    by_cases h124 : c0 = 124
    ·subst h124
     have h1 : c1 ≠ 35 := fun e => HN2.out ⟨rfl, e⟩
     have f1 : ((c1.toNat : Int) == 35) = false := (Lx.beq_nat c1 35 (by omega)).symm.trans (beq_eq_false_iff_ne.2 h1)
     clear h1
     go_wp2_with fail
     refine (peek0 B n s _ hsc hs hn _ hc0).mono ?_; rintro e w1 ⟨rfl, k1, rfl⟩
     go_wp2_with fail
     refine (peek0d B n _ s _ hsc hs hn _ hc0).mono ?_; rintro e w1 ⟨rfl, k2, rfl⟩
     go_wp2_with fail
     refine (peek1d B n _ s _ hsc hs hn _ hc1).mono ?_; rintro e w1 ⟨rfl, k3, rfl⟩
     go_wp2_with fail
     go_quiet (fail)
     go_wp2
     go_roundw
     case rel => exact ⟨n + 1, o, rfl, by omega, by omega, HM2, (hsc.drew _).step' _ _ (by omega), (hch.drew _).setCell _ _, fun h0 => absurd h0 (by omega)⟩
     case measure => rw [Lx.left_eq ((hsc.drew _).step' _ (n + 1) (by omega)), HL.out]; omega
    ·have f2 : ((c0.toNat : Int) == 124) = false := (Lx.beq_nat c0 124 (by omega)).symm.trans (beq_eq_false_iff_ne.2 h124)
     clear h124
     go_wp2_with fail
     refine (peek0 B n s _ hsc hs hn _ hc0).mono ?_; rintro e w1 ⟨rfl, k1, rfl⟩
     go_wp2_with fail
     refine (peek0d B n _ s _ hsc hs hn _ hc0).mono ?_; rintro e w1 ⟨rfl, k2, rfl⟩
     go_wp2_with fail
     go_quiet (fail)
     go_wp2
     go_roundw
     case rel => exact ⟨n + 1, o, rfl, by omega, by omega, HM2, (hsc.drew _).step' _ _ (by omega), (hch.drew _).setCell _ _, fun h0 => absurd h0 (by omega)⟩
     case measure => rw [Lx.left_eq ((hsc.drew _).step' _ (n + 1) (by omega)), HL.out]; omega
  ·have hE : n = s.size := by omega
   have HE : Hid (Lx.com (Lx.tl s n) o = none) := Lx.com_end s n o (by omega)
   have e0 : c0 = 0 := by rw [← hc0.out]; exact Lx.pk_out s n 0 (by omega)
   subst e0
   have hge : (s.size : Int) ≤ (n : Int) := by omega
   clear hE
   go_wp2_with fail
   refine (peek0 B n s _ hsc hs hn _ hc0).mono ?_; rintro e w1 ⟨rfl, k1, rfl⟩
   go_wp2_with fail
   refine (peek0d B n _ s _ hsc hs hn _ hc0).mono ?_; rintro e w1 ⟨rfl, k2, rfl⟩
   go_wp2_with fail
   go_quiet (fail)
   go_wp2
   go_ret
   exact ⟨n, rfl, (hsc.drew _).drew _, (hch.drew _).drew _⟩
end Go.Proofs.Ytcopdfihaheplaa
