/-
  The walks of the small functions of the package lex; strings.IndexByte.
-/
import Derived.Test.YtcopdfihaheplaaLexModel
import Derived.Lib.Bytealg
import Derived.Laws.BitsAllLaws
import Derived.Laws.BitsLemmas
import Derived.Deep.QuietTactic
import Derived.BigQuiet
import Derived.Deep.Draws
namespace Go.Proofs.Ytcopdfihaheplaa
open Go.RowKit
theorem run_IndexByteString (s : ByteArray) (c : UInt8) (w : World) :
    (callFunc 101 #[.string s, .int .u8 (c.toNat : Int)]).run Try.prog w = .ok (.value (.int .i64 (Lib.indexByte s.data.toList c))) w := by
  have h := Lib.run_indexByteString (P := Try.prog) s (c.toNat : Int) w
  rw [show ((c.toNat : Int)).toNat.toUInt8 = c by simp] at h
  rw [run_callFunc_extern Try.func101 (by kernel_rfl) (by kernel_rfl) (by kernel_rfl) (e := Extern.BytealgIndexByte.indexByte) (by kernel_rfl), h]
  rfl
set_option maxRecDepth 100000 in
theorem IndexByte_any (s : ByteArray) (c : UInt8) (w : World) :
    Calls Try.prog 61 #[.string s, .int .u8 (c.toNat : Int)] w fun e w' => e = .returned (.int .i64 (Lib.indexByte s.data.toList c)) ∧ w = w' := by
  have h := run_IndexByteString s c w
  go_enter Try.func61, Try.ntmps61
  go_wp2
  go_ret
  exact ⟨rfl, rfl⟩
namespace Lx
def tl (s : ByteArray) (at_ : Nat) : List UInt8 := s.data.toList.drop at_
theorem tl_len (s : ByteArray) (at_ : Nat) : (tl s at_).length = s.size - at_ := by
  unfold tl; rw [List.length_drop, Fx.size_toList]
theorem tl_cons (s : ByteArray) (at_ : Nat) (h : at_ < s.size) : tl s at_ = s[at_] :: tl s (at_ + 1) := by
  unfold tl
  rw [List.drop_eq_getElem_cons (by rw [Fx.size_toList]; exact h)]
  rfl
theorem tl_nil (s : ByteArray) (at_ : Nat) (h : s.size ≤ at_) : tl s at_ = [] := by
  unfold tl
  exact List.drop_eq_nil_of_le (by rw [Fx.size_toList]; exact h)
theorem pk_in (s : ByteArray) (at_ n : Nat) (h : at_ + n < s.size) : pk (tl s at_) n = s[at_ + n] := by
  unfold pk tl
  rw [List.getD_eq_getElem?_getD, List.getElem?_drop, List.getElem?_eq_getElem (by rw [Fx.size_toList]; exact h)]
  rfl
theorem pk_out (s : ByteArray) (at_ n : Nat) (h : s.size ≤ at_ + n) : pk (tl s at_) n = 0 := by
  unfold pk tl
  rw [List.getD_eq_getElem?_getD, List.getElem?_drop, List.getElem?_eq_none (by rw [Fx.size_toList]; exact h)]
  rfl
structure Scan (w : World) (B : Nat) (s : ByteArray) (at_ : Nat) : Prop where
  c0 : w.cell? ⟨B, 0, none⟩ = some (.string s)
  c1 : w.cell? ⟨B, 1, none⟩ = some (.int .i64 at_)
  fz : ∀ j, w.frozen? ⟨B, j, none⟩ = false
  lt : B < w.heap.size
end Lx
set_option maxRecDepth 100000 in
theorem peek_in (B at_ : Nat) (n : Int) (s : ByteArray) (w : World) (h : Lx.Scan w B s at_) (hn : 0 ≤ n) (hb : at_ + n.toNat < s.size) (hs : s.size ≤ 9223372036854775807) :
    Calls Try.prog 60 #[.pointer (some ⟨B, 0, none⟩), .int .i64 n] w fun e w' => e = .returned (.int .u8 ((Lx.pk (Lx.tl s at_) n.toNat).toNat : Int)) ∧ ∃ k, w' = w.drewN k := by
  obtain ⟨n, rfl⟩ := Int.eq_ofNat_of_zero_le hn
  rw [Int.toNat_natCast] at hb ⊢
  have hp := Lx.pk_in s at_ n hb
  have HP := Lib.hid hp
  have c0 := h.c0
  have c1 := h.c1
  clear hp h
  have hb1 : (at_ : Int) + (n : Int) < (s.size : Int) := by omega
  have hb0 : 0 ≤ (at_ : Int) + (n : Int) := by omega
  have hw : IntKind.i64.wrap ((at_ : Int) + (n : Int)) = (at_ : Int) + (n : Int) := IntWalk.i64_in _ (by omega)
  have ht : ((at_ : Int) + (n : Int)).toNat = at_ + n := by omega
  go_enter Try.func60, Try.ntmps60
  go_wp2
  go_quiet (fail)
  go_wp2
  go_quiet (fail)
  go_wp2
  go_ret
  exact ⟨by rw [HP.out]; rfl, _, World.drewN_drewN _ _ _⟩
set_option maxRecDepth 100000 in
theorem peek_out (B at_ : Nat) (n : Int) (s : ByteArray) (w : World) (h : Lx.Scan w B s at_) (hn : 0 ≤ n) (hb : s.size ≤ at_ + n.toNat) (hs : at_ + n.toNat ≤ 9223372036854775807) :
    Calls Try.prog 60 #[.pointer (some ⟨B, 0, none⟩), .int .i64 n] w fun e w' => e = .returned (.int .u8 ((Lx.pk (Lx.tl s at_) n.toNat).toNat : Int)) ∧ ∃ k, w' = w.drewN k := by
  obtain ⟨n, rfl⟩ := Int.eq_ofNat_of_zero_le hn
  rw [Int.toNat_natCast] at hb hs ⊢
  have hp := Lx.pk_out s at_ n hb
  have HP := Lib.hid hp
  have c0 := h.c0
  have c1 := h.c1
  clear hp h
  have hb1 : (s.size : Int) ≤ (at_ : Int) + (n : Int) := by omega
  have hb0 : 0 ≤ (at_ : Int) + (n : Int) := by omega
  have hw : IntKind.i64.wrap ((at_ : Int) + (n : Int)) = (at_ : Int) + (n : Int) := IntWalk.i64_in _ (by omega)
  have ht : ((at_ : Int) + (n : Int)).toNat = at_ + n := by omega
  go_enter Try.func60, Try.ntmps60
  go_wp2
  go_quiet (fail)
  go_wp2
  go_ret
  exact ⟨by rw [HP.out]; rfl, _, rfl⟩
theorem peek_any (B at_ : Nat) (n : Int) (s : ByteArray) (w : World) (h : Lx.Scan w B s at_) (hn : 0 ≤ n) (hs : s.size ≤ 9223372036854775807) (hs2 : at_ + n.toNat ≤ 9223372036854775807) :
    Calls Try.prog 60 #[.pointer (some ⟨B, 0, none⟩), .int .i64 n] w fun e w' => e = .returned (.int .u8 ((Lx.pk (Lx.tl s at_) n.toNat).toNat : Int)) ∧ ∃ k, w' = w.drewN k := by
  by_cases hb : at_ + n.toNat < s.size
  · exact peek_in B at_ n s w h hn hb hs
  · exact peek_out B at_ n s w h hn (by omega) hs2
namespace Lx
theorem beq_nat (c : UInt8) (k : Nat) (hk : k < 256) : (c == UInt8.ofNat k) = ((c.toNat : Int) == (k : Int)) := by
  by_cases h : c.toNat = k
  · have e : c = UInt8.ofNat k := UInt8.toNat_inj.1 (by rw [h]; simp; omega)
    rw [beq_iff_eq.2 (show (c.toNat : Int) = k by omega), e]
    simp
  · have e : c ≠ UInt8.ofNat k := fun e => h (by rw [e]; simp; omega)
    rw [beq_eq_false_iff_ne.2 (show (c.toNat : Int) ≠ k by omega)]
    exact beq_eq_false_iff_ne.2 e
theorem white_int (c : UInt8) : white c = ((((c.toNat : Int) == 32 || (c.toNat : Int) == 9) || (c.toNat : Int) == 10) || (c.toNat : Int) == 13) := by
  unfold white
  rw [show (c == 32) = ((c.toNat : Int) == 32) from beq_nat c 32 (by omega), show (c == 9) = ((c.toNat : Int) == 9) from beq_nat c 9 (by omega), show (c == 10) = ((c.toNat : Int) == 10) from beq_nat c 10 (by omega), show (c == 13) = ((c.toNat : Int) == 13) from beq_nat c 13 (by omega)]
theorem b2 {p q : Bool} (h : p = q) : Ending.returned (.bool p) = .returned (.bool q) := by rw [h]
end Lx
set_option maxRecDepth 100000 in
theorem white_any (c : UInt8) (w : World) :
    Calls Try.prog 37 #[.int .u8 (c.toNat : Int)] w fun e w' => e = .returned (.bool (Lx.white c)) ∧ w = w' := by
  go_enter Try.func37, Try.ntmps37
  go_wp2
  all_goals (go_ret; exact ⟨Lx.b2 (by rw [Lx.white_int]; try simp [*]), rfl⟩)
namespace Lx
theorem idx_in (l : List UInt8) (c : UInt8) : decide (0 ≤ Lib.indexByte l c) = l.contains c := by
  induction l with
  | nil => rfl
  | cons b l ih =>
    have hm : Lib.indexByte l c = -1 ∨ 0 ≤ Lib.indexByte l c := by
      clear ih
      induction l with
      | nil => exact .inl rfl
      | cons b l ih =>
        unfold Lib.indexByte
        split
        · exact .inr (by omega)
        · split
          · exact .inl rfl
          · rename_i h; rcases ih with ih | ih
            · rw [ih] at h; exact absurd rfl h
            · exact .inr (by omega)
    unfold Lib.indexByte
    rw [List.contains_cons, ← ih]
    by_cases hb : b = c
    · subst hb; simp
    · have e1 : (b == c) = false := by simpa using hb
      have e2 : (c == b) = false := by simpa using fun h => hb h.symm
      rw [e1, e2]
      rcases hm with hm | hm
      · rw [hm]; simp
      · have e3 : (Lib.indexByte l c == -1) = false := beq_eq_false_iff_ne.2 (by omega)
        rw [e3]
        simp; omega
theorem ends_int (c : UInt8) : ends c = ((((c.toNat : Int) == 0) || white c) || decide (0 ≤ Lib.indexByte [40, 41, 34, 59] c)) := by
  unfold ends
  rw [idx_in, show (c == 0) = ((c.toNat : Int) == 0) from beq_nat c 0 (by omega)]
  simp only [List.contains_cons, List.contains_nil, Bool.or_false, Bool.or_assoc]
theorem fig_int (c : UInt8) : figure c = (decide (48 ≤ (c.toNat : Int)) && decide ((c.toNat : Int) ≤ 57)) := by
  unfold figure
  congr 1
  · exact decide_eq_decide.2 (by omega)
  · exact decide_eq_decide.2 (by omega)
end Lx
set_option maxRecDepth 100000 in
theorem ends_any (c : UInt8) (w : World) :
    Calls Try.prog 89 #[.int .u8 (c.toNat : Int)] w fun e w' => e = .returned (.bool (Lx.ends c)) ∧ w = w' := by
  go_enter Try.func89, Try.ntmps89
  go_wp2_with (first | (go_at_call 37; refine (white_any _ _).mono ?_; rintro e w' ⟨rfl, rfl⟩) | (go_at_call 61; refine (IndexByte_any _ _ _).mono ?_; rintro e w' ⟨rfl, rfl⟩))
  all_goals (go_ret; exact ⟨Lx.b2 (by rw [Lx.ends_int]; try simp [*]), rfl⟩)
set_option maxRecDepth 100000 in
theorem figure_any (c : UInt8) (w : World) :
    Calls Try.prog 90 #[.int .u8 (c.toNat : Int)] w fun e w' => e = .returned (.bool (Lx.figure c)) ∧ w = w' := by
  go_enter Try.func90, Try.ntmps90
  go_wp2
  all_goals (go_ret; exact ⟨Lx.b2 (by rw [Lx.fig_int]; first | (simp [*]; done) | (simp; omega)), rfl⟩)
namespace Lx
theorem Scan.drew {w : World} {B : Nat} {s : ByteArray} {at_ : Nat} (h : Scan w B s at_) (k : Nat) : Scan (w.drewN k) B s at_ := ⟨h.c0, h.c1, h.fz, h.lt⟩
theorem Scan.below {w w' : World} {B : Nat} {s : ByteArray} {at_ : Nat} (h : Scan w B s at_) (hb : Below w.heap.size w w') : Scan w' B s at_ :=
  ⟨(hb.cell (p := ⟨B, 0, none⟩) h.lt).trans h.c0, (hb.cell (p := ⟨B, 1, none⟩) h.lt).trans h.c1, fun j => (hb.frozen (p := ⟨B, j, none⟩) h.lt).trans (h.fz j), Nat.lt_of_lt_of_le h.lt hb.size⟩
theorem bdrew (w : World) (k : Nat) : Below w.heap.size w (w.drewN k) := ⟨rfl, rfl, rfl, Nat.le_refl _, fun _ _ => rfl⟩
theorem sign_int (t : List UInt8) : sign t = if ((pk t 0).toNat : Int) == 40 then (1, 1) else if ((pk t 0).toNat : Int) == 41 then (2, 1) else if ((pk t 0).toNat : Int) == 39 then (4, 1) else if ((pk t 0).toNat : Int) == 96 then (5, 1)
    else if ((pk t 0).toNat : Int) == 44 then (if ((pk t 1).toNat : Int) == 64 then (7, 2) else (6, 1))
    else if ((pk t 0).toNat : Int) == 35 && ((pk t 1).toNat : Int) == 40 then (3, 2) else (0, 0) := by
  unfold sign
  have h := fun (c : UInt8) (k : Nat) (hk : k < 256) => beq_nat c k hk
  rw [show (pk t 0 == 40) = (((pk t 0).toNat : Int) == 40) from h _ 40 (by omega), show (pk t 0 == 41) = (((pk t 0).toNat : Int) == 41) from h _ 41 (by omega),
    show (pk t 0 == 39) = (((pk t 0).toNat : Int) == 39) from h _ 39 (by omega), show (pk t 0 == 96) = (((pk t 0).toNat : Int) == 96) from h _ 96 (by omega),
    show (pk t 0 == 44) = (((pk t 0).toNat : Int) == 44) from h _ 44 (by omega), show (pk t 1 == 64) = (((pk t 1).toNat : Int) == 64) from h _ 64 (by omega),
    show (pk t 0 == 35) = (((pk t 0).toNat : Int) == 35) from h _ 35 (by omega), show (pk t 1 == 40) = (((pk t 1).toNat : Int) == 40) from h _ 40 (by omega)]
end Lx
theorem Lx.ret2 {p : Nat × Nat} {a b : Int} (h : p = (a.toNat, b.toNat)) (ha : 0 ≤ a) (hb : 0 ≤ b) : Ending.returned (.tuple #[.int .i64 a, .int .i64 b]) = .returned (.tuple #[.int .i64 (p.1 : Int), .int .i64 (p.2 : Int)]) := by
  rw [h]
  simp only [Int.toNat_of_nonneg ha, Int.toNat_of_nonneg hb]
set_option maxRecDepth 100000 in
theorem sign_any (B at_ : Nat) (s : ByteArray) (w : World) (h : Lx.Scan w B s at_) (hs : s.size ≤ 9223372036854775806) (hat : at_ ≤ s.size) :
    Calls Try.prog 63 #[.pointer (some ⟨B, 0, none⟩)] w fun e w' => e = .returned (.tuple #[.int .i64 ((Lx.sign (Lx.tl s at_)).1 : Int), .int .i64 ((Lx.sign (Lx.tl s at_)).2 : Int)]) ∧ ∃ k, w' = w.drewN k := by
  go_enter Try.func63, Try.ntmps63
  go_wp2_with fail
  refine (peek_any B at_ 1 s _ h (by omega) (by omega) (by simp; omega)).mono ?_; rintro e w' ⟨rfl, k1, rfl⟩
  go_wp2_with fail
  refine (peek_any B at_ 0 s _ (h.drew _) (by omega) (by omega) (by simp; omega)).mono ?_; rintro e w' ⟨rfl, k2, rfl⟩
  go_wp2
  all_goals (go_ret2; exact ⟨Lx.ret2 (by rw [Lx.sign_int]; simp [*]) (by omega) (by omega), _, rfl⟩)
theorem quiet_add_same {P : Program} {f : FuncId} {args : Array Value} {w : World} {a n : Nat} {v : Value}
    (h : Calls P f args (w.drewN (a + n)) fun e w' => e = .returned v ∧ w' = w.drewN (a + n)) :
    Calls P f args (w.drewN (a + n)) fun e w'' => e = .returned v ∧ ∃ m, w'' = w.drewN (a + m) :=
  h.mono fun _ _ ⟨he, hm⟩ => ⟨he, n, hm⟩
theorem IndexByte_q (s : ByteArray) (c : UInt8) (w : World) :
    Calls Try.prog 61 #[.string s, .int .u8 (c.toNat : Int)] w fun e w' => e = .returned (.int .i64 (Lib.indexByte s.data.toList c)) ∧ w' = w :=
  (IndexByte_any s c w).mono fun _ _ h => ⟨h.1, h.2.symm⟩
namespace Lx
theorem ofInt_i64 (a : Nat) (ha : a < 9223372036854775808) : (BitVec.ofInt 64 (a : Int)).toNat = a := by
  rw [BitVec.ofInt_natCast, BitVec.toNat_ofNat]; exact Nat.mod_eq_of_lt (by omega)
theorem i64_or_nat (a b : Nat) (ha : a < 9223372036854775808) (hb : b < 9223372036854775808) : bits .or .i64 (a : Int) (b : Int) = ((a ||| b : Nat) : Int) := by
  have hx : a ||| b < 2 ^ 63 := Nat.or_lt_two_pow (by omega) (by omega)
  show IntKind.i64.wrap ((BitVec.ofInt 64 (a : Int) ||| BitVec.ofInt 64 (b : Int)).toNat : Int) = _
  rw [BitVec.toNat_or, ofInt_i64 a ha, ofInt_i64 b hb, IntKind.wrap_i64]
  omega
theorem or16 (x y : Nat) (hx : x < 16) (hy : y < 16) : bits .or .i64 ((x : Int) * 16) (y : Int) = ((16 * x + y : Nat) : Int) := by
  rw [show (x : Int) * 16 = ((x * 16 : Nat) : Int) from by omega, i64_or_nat _ _ (by omega) (by omega)]
  have := Nat.two_pow_add_eq_or_of_lt (b := y) (i := 4) (by omega) x
  rw [show x * 16 = 2 ^ 4 * x from by omega, ← this]
def hexes : ByteArray := ⟨#[48, 49, 50, 51, 52, 53, 54, 55, 56, 57, 97, 98, 99, 100, 101, 102]⟩
def hexI (c : UInt8) : Int := Lib.indexByte hexes.data.toList c
theorem hexI_all : ∀ n, n < 256 → hexI (UInt8.ofNat n) = (match hexOf (UInt8.ofNat n) with | some x => (x : Int) | none => -1) := by decide +kernel
theorem hexI_eq (c : UInt8) : hexI c = (match hexOf c with | some x => (x : Int) | none => -1) := by
  have := hexI_all c.toNat c.toNat_lt
  rwa [UInt8.ofNat_toNat] at this
theorem hexOf_bd (c : UInt8) (x : Nat) (h : hexOf c = some x) : x < 16 := by
  unfold hexOf at h
  split at h
  · rename_i h1; simp [figure] at h1; injection h with h; omega
  · split at h
    · rename_i h1; simp at h1; injection h with h; omega
    · cases h
end Lx
set_option maxRecDepth 100000 in
theorem two_any (s : ByteArray) (w : World) (hs : s.size ≤ 9223372036854775807) :
    Calls Try.prog 102 #[.string s] w fun e w' => e = .returned (.int .i64 (Lx.two s.data.toList)) ∧ ∃ k, w' = w.drewN k := by
  by_cases h2 : s.size < 2
  · have e : Hid (Lx.two s.data.toList = -1) := by
      show _ = _
      have := Fx.size_toList s
      cases hl : s.data.toList with
      | nil => rfl
      | cons a l => cases l with
        | nil => rfl
        | cons b l => rw [hl] at this; simp at this; omega
    go_enter Try.func102, Try.ntmps102
    go_wp2
    go_ret
    exact ⟨by rw [e.out]; rfl, 0, rfl⟩
  · have b0 : (0 : Int) < (s.size : Int) := by omega
    have b1 : (1 : Int) < (s.size : Int) := by omega
    have b2 : 0 < s.size := by omega
    have b3 : 1 < s.size := by omega
    have hl : s.data.toList = s[0] :: s[1] :: s.data.toList.drop 2 := by
      have e0 := Lx.tl_cons s 0 (by omega)
      have e1 := Lx.tl_cons s 1 (by omega)
      unfold Lx.tl at e0 e1
      rw [List.drop_zero] at e0
      exact e0.trans (congrArg _ e1)
    have q0 := Lx.hexI_eq s[0]
    have q1 := Lx.hexI_eq s[1]
    have ht : Lx.two s.data.toList = (match Lx.hexOf s[0], Lx.hexOf s[1] with
      | some x, some y => if x ≤ 7 then ((16 * x + y : Nat) : Int) else -1
      | _, _ => -1) := by rw [hl]; rfl
    unfold Lx.hexI Lx.hexes at q0 q1
    cases h0 : Lx.hexOf s[0] with
    | none =>
      rw [h0] at q0 ht
      have e : Hid (Lx.two s.data.toList = -1) := ht
      clear q1 ht hl h0
      go_enter Try.func102, Try.ntmps102
      go_wp2
      go_quiet ((go_at_call 61; exact Calls.quiet_of_same (IndexByte_q _ _ _)))
      go_wp2
      go_ret
      exact ⟨by rw [e.out]; rfl, _, rfl⟩
    | some x =>
      have bx := Lx.hexOf_bd _ _ h0
      rw [h0] at q0 ht
      by_cases hx : x ≤ 7
      case neg =>
       have e : Hid (Lx.two s.data.toList = -1) := by
        show _ = _
        rw [ht]
        cases Lx.hexOf s[1] with
        | none => rfl
        | some y => exact if_neg hx
       clear q1 ht hl h0
       go_enter Try.func102, Try.ntmps102
       go_wp2
       go_quiet ((go_at_call 61; exact Calls.quiet_of_same (IndexByte_q _ _ _)))
       go_wp2
       go_ret
       exact ⟨by rw [e.out]; rfl, _, rfl⟩
      cases h1 : Lx.hexOf s[1] with
      | none =>
       rw [h1] at q1 ht
       have e : Hid (Lx.two s.data.toList = -1) := ht
       clear ht hl h0 h1
       go_enter Try.func102, Try.ntmps102
       go_wp2
       go_quiet ((go_at_call 61; exact Calls.quiet_of_same (IndexByte_q _ _ _)))
       go_wp2
       go_ret
       exact ⟨by rw [e.out]; rfl, _, rfl⟩
      | some y =>
       have bY := Lx.hexOf_bd _ _ h1
       rw [h1] at q1 ht
       have e : Hid (Lx.two s.data.toList = ((16 * x + y : Nat) : Int)) := ht.trans (if_pos hx)
       clear ht hl h0 h1
       go_enter Try.func102, Try.ntmps102
       go_wp2
       go_quiet ((go_at_call 61; exact Calls.quiet_of_same (IndexByte_q _ _ _)))
       go_wp2
       go_ret
       refine ⟨?_, _, rfl⟩
       rw [e.out]
       exact Fx.ret (Lx.or16 x y (by omega) bY)
end Go.Proofs.Ytcopdfihaheplaa
