/-
 The walk of run: a run of bytes.
-/
import Derived.Test.YtcopdfihaheplaaLexChar
import Derived.Test.YtcopdfihaheplaaLexSym
namespace Go.Proofs.Ytcopdfihaheplaa
open Go.RowKit Go.Sort
namespace Lx
def runW (w rest : List UInt8) : Res :=
 if w = [35, 102] then .tok ⟨10, 0, []⟩ rest
 else if w = [35, 116] then .tok ⟨10, 1, []⟩ rest
 else if w = [46] then .tok ⟨8, 0, []⟩ rest
 else if figure (w.headD 0) || ((w.headD 0 == 45 || w.headD 0 == 43) && decide (1 < w.length) && figure (pk w 1)) then
  if (Fx.parse w).2 = 0 then .tok ⟨9, (Fx.parse w).1, []⟩ rest
  else if (Fx.parse w).2 = 5 then .err 30 else .err (Fx.parse w).2
 else if symbol w then .tok ⟨13, 0, w⟩ rest
 else .err 30
theorem run_eq (t : List UInt8) : run t = runW (t.takeWhile fun c => !ends c) (t.dropWhile fun c => !ends c) := rfl
theorem tw_take (f : UInt8 → Bool) (l : List UInt8) (n : Nat) (h : (l.takeWhile f).length = n) : l.takeWhile f = l.take n ∧ l.dropWhile f = l.drop n := by
 have e := List.takeWhile_append_dropWhile (p := f) (l := l)
 constructor
 ·conv => rhs; rw [← e]
  rw [List.take_append_of_le_length (by omega), List.take_of_length_le (by omega)]
 ·conv => rhs; rw [← e]
  rw [List.drop_append_of_le_length (by omega), List.drop_of_length_le (by omega)]
  rfl
theorem run_ext (s : ByteArray) (b n : Nat) (x : ByteArray) (hx : s.extract b (b + n) = x) (hn : b + n ≤ s.size) (hin : ∀ j, j < n → ends (pk (tl s b) j) = false) (hout : ends (pk (tl s b) n) = true) :
  run (tl s b) = runW x.data.toList (tl s (b + n)) := by
 have hl : ((tl s b).takeWhile fun c => !ends c).length = n := by
  rw [run_len _ s b (b + n) (by omega) hn (fun j h1 h2 => by
   have := hin (j - b) (by omega)
   rw [pk_in s b (j - b) (by omega)] at this
   simp only [show b + (j - b) = j by omega] at this
   rw [this]; rfl) (fun h => by
   rw [pk_in s b n h] at hout
   rw [hout]; rfl)]
  omega
 obtain ⟨h1, h2⟩ := tw_take _ _ _ hl
 rw [run_eq, h1, h2, tl_drop, ← hx, Lib.extract_data, show b + n - b = n by omega]
 rfl
end Lx
set_option maxRecDepth 100000 in
set_option maxHeartbeats 4000000 in
theorem run_any (B T at0 : Nat) (a : Int) (s : ByteArray) (w : World) (h : Lx.Scan w B s at0) (ht : Lx.TkAt w T 0 a 0 0 ⟨#[]⟩) (hBT : B ≠ T) (hs : s.size ≤ 1000000) (ha : at0 ≤ s.size) (hne : Lx.ends (Lx.pk (Lx.tl s at0) 0) = false) :
  Calls Try.prog 66 #[.pointer (some ⟨B, 0, none⟩), .pointer (some ⟨T, 0, none⟩)] w (Lx.TokPost B T s a (Lx.run (Lx.tl s at0)) w) := by
 have c0 := h.c0
 have c1 := h.c1
 go_enter Try.func66, Try.ntmps66
 go_wp2_with fail
 go_loopw [5] (fun v wr => ∃ n : Nat, v = .int .i64 n ∧ at0 + n ≤ s.size ∧ Hid (∀ j, j < n → Lx.ends (Lx.pk (Lx.tl s at0) j) = false) ∧ Below w.heap.size w wr) (fun v _ => s.size + 1 - (intOf v).toNat)
 case atStart => exact ⟨0, rfl, by omega, (fun j hj => absurd hj (by omega)), Below.refl _ _⟩
 case round =>
  obtain ⟨n, rfl, hn, HI, hbl⟩ := hrel
  have hsc := h.below hbl
  have htk := ht.below hbl
  go_wp2_with fail
  refine (peek_any B at0 (n : Int) s _ hsc (by omega) (by omega) (by simp; omega)).mono ?_
  rintro e w1 ⟨rfl, k1, rfl⟩
  rw [Int.toNat_natCast]
  have HSC := Lib.hid (hsc.drew k1)
  have HTK := Lib.hid (htk.drew k1)
  have HCH := Lib.hid (((Lx.Chg2.refl B T w).of_below hbl).drew k1)
  have HBL := Lib.hid (below_drewN hbl k1)
  clear hsc htk hbl
  go_wp2_with fail
  refine (ends_any _ _).mono ?_
  rintro e w2 ⟨rfl, rfl⟩
  cases he : Lx.ends (Lx.pk (Lx.tl s at0) n)
  ·have hlt : at0 + n < s.size := by
    apply Classical.byContradiction
    intro hh
    rw [Lx.pk_out s at0 n (by omega)] at he
    exact absurd he (by decide)
   have HI2 : Hid (∀ j, j < n + 1 → Lx.ends (Lx.pk (Lx.tl s at0) j) = false) := fun j hj => by
    by_cases e : j = n
    ·rw [e]; exact he
    ·exact HI.out j (by omega)
   go_wp2
   go_roundw
   case rel => exact ⟨n + 1, by simp, by omega, HI2, HBL.out⟩
   case measure => simp [intOf]; omega
  have hn0 : n ≠ 0 := by rintro rfl; rw [hne] at he; exact absurd he (by decide)
  obtain ⟨x, hx⟩ : ∃ x, s.extract at0 (at0 + n) = x := ⟨_, rfl⟩
  have HC := Lib.hid (Lx.run_ext s at0 n x hx hn HI.out he)
  have hxl : x.data.toList = (Lx.tl s at0).take n := by rw [← hx, Lib.extract_data]; simp; rfl
  have hxs : x.size = n := by
   have := congrArg List.length hxl
   rw [Fx.size_toList, List.length_take, Lx.tl_len] at this
   omega
  clear hxl HI
  obtain ⟨w1, hw1⟩ : ∃ w1, wr.drewN k1 = w1 := ⟨_, rfl⟩
  rw [hw1] at HSC HTK HCH HBL ⊢
  clear hw1
  have c0' := HSC.out.c0
  have c1' := HSC.out.c1
  have fz := HSC.out.fz
  have hw1 : IntKind.i64.wrap ((at0 : Int) + (n : Int)) = (at0 : Int) + (n : Int) := IntWalk.i64_in _ (by omega)
  have hw2 : 0 ≤ (at0 : Int) + (n : Int) := by omega
  have hw3 : ((at0 : Int) + (n : Int)).toNat = at0 + n := by omega
  have hw4 : (at0 : Int) + (n : Int) ≤ (s.size : Int) := by omega
  have hw5 : (at0 : Int) ≤ (at0 : Int) + (n : Int) := by omega
  have hw6 : 0 ≤ (at0 : Int) := by omega
  have e0 := ByteArray.toList_eq x
  cases f1 : (x.toList == [35, 102])
  case true =>
   have e1 : x.data.toList = [35, 102] := by rw [← e0]; simpa using f1
   have hxx : x = ⟨#[35, 102]⟩ := by
    obtain ⟨⟨l⟩⟩ := x
    simp at e1
    rw [e1]
   subst hxx
   have HR : Hid (Lx.run (Lx.tl s at0) = .tok ⟨10, 0, []⟩ (Lx.tl s (at0 + n))) := HC.out
   clear HC f1 e0 e1 hxs
   go_wp2_with fail
   go_quiet (fail)
   have htk2 := (HTK.out.drew nq).other B 1 (.int .i64 ((at0 : Int) + (n : Int))) (Ne.symm hBT)
   have HSC2 := Lib.hid ((HSC.out.drew nq).step' ((at0 : Int) + (n : Int)) (at0 + n) (by omega))
   have HTK2 := Lib.hid htk2
   have HCH2 := Lib.hid ((HCH.out.drew nq).setB 1 (.int .i64 ((at0 : Int) + (n : Int))))
   clear htk2 HSC HTK HCH HBL
   go_wp2
   obtain ⟨w2, hW2⟩ : ∃ w2, (w1.drewN nq).setCell ⟨B, 1, none⟩ (.int .i64 ((at0 : Int) + (n : Int))) = w2 := ⟨_, rfl⟩
   rw [hW2] at HSC2 HTK2 HCH2 ⊢
   clear hW2 c0' c1' fz hw1 hw2 hw3 hw4 hw5 hw6
   have d0 := HTK2.out.c0
   have d3 := HTK2.out.c3
   have z0 := HTK2.out.fz
   go_region
   have hv : wrap64 (bits BinOp.and IntKind.u8 ((((⟨#[35, 102]⟩ : ByteArray)[1]'(by decide)).toNat : Int)) 16 / 16) = 0 := by decide +kernel
   rw [hv]
   go_wp2
   go_ret
   exact .tok (at0 + n) 10 _ [] _ _ (HR.out.trans rfl) (by omega) (((HSC2.out.other T 0 _ hBT).other T 3 _ hBT).drew 1) (((HTK2.out.set0 10).set3 _).drew 1) (((HCH2.out.setT 0 _).setT 3 _).drew 1) rfl rfl
  cases f2 : (x.toList == [35, 116])
  case true =>
   have e1 : x.data.toList = [35, 116] := by rw [← e0]; simpa using f2
   have hxx : x = ⟨#[35, 116]⟩ := by
    obtain ⟨⟨l⟩⟩ := x
    simp at e1
    rw [e1]
   subst hxx
   have HR : Hid (Lx.run (Lx.tl s at0) = .tok ⟨10, 1, []⟩ (Lx.tl s (at0 + n))) := HC.out
   clear HC f1 f2 e0 e1 hxs
   go_wp2_with fail
   go_quiet (fail)
   have htk2 := (HTK.out.drew nq).other B 1 (.int .i64 ((at0 : Int) + (n : Int))) (Ne.symm hBT)
   have HSC2 := Lib.hid ((HSC.out.drew nq).step' ((at0 : Int) + (n : Int)) (at0 + n) (by omega))
   have HTK2 := Lib.hid htk2
   have HCH2 := Lib.hid ((HCH.out.drew nq).setB 1 (.int .i64 ((at0 : Int) + (n : Int))))
   clear htk2 HSC HTK HCH HBL
   go_wp2
   obtain ⟨w2, hW2⟩ : ∃ w2, (w1.drewN nq).setCell ⟨B, 1, none⟩ (.int .i64 ((at0 : Int) + (n : Int))) = w2 := ⟨_, rfl⟩
   rw [hW2] at HSC2 HTK2 HCH2 ⊢
   clear hW2 c0' c1' fz hw1 hw2 hw3 hw4 hw5 hw6
   have d0 := HTK2.out.c0
   have d3 := HTK2.out.c3
   have z0 := HTK2.out.fz
   go_region
   have hv : wrap64 (bits BinOp.and IntKind.u8 ((((⟨#[35, 116]⟩ : ByteArray)[1]'(by decide)).toNat : Int)) 16 / 16) = 1 := by decide +kernel
   rw [hv]
   go_wp2
   go_ret
   exact .tok (at0 + n) 10 _ [] _ _ (HR.out.trans rfl) (by omega) (((HSC2.out.other T 0 _ hBT).other T 3 _ hBT).drew 1) (((HTK2.out.set0 10).set3 _).drew 1) (((HCH2.out.setT 0 _).setT 3 _).drew 1) rfl rfl
  cases f3 : (x.toList == [46])
  case true =>
   have e1 : x.data.toList = [46] := by rw [← e0]; simpa using f3
   have hxx : x = ⟨#[46]⟩ := by
    obtain ⟨⟨l⟩⟩ := x
    simp at e1
    rw [e1]
   subst hxx
   have HR : Hid (Lx.run (Lx.tl s at0) = .tok ⟨8, 0, []⟩ (Lx.tl s (at0 + n))) := HC.out
   clear HC f1 f2 f3 e0 e1 hxs
   go_wp2_with fail
   go_quiet (fail)
   have htk2 := (HTK.out.drew nq).other B 1 (.int .i64 ((at0 : Int) + (n : Int))) (Ne.symm hBT)
   have HSC2 := Lib.hid ((HSC.out.drew nq).step' ((at0 : Int) + (n : Int)) (at0 + n) (by omega))
   have HTK2 := Lib.hid htk2
   have HCH2 := Lib.hid ((HCH.out.drew nq).setB 1 (.int .i64 ((at0 : Int) + (n : Int))))
   have d0 := htk2.c0
   have z0 := htk2.fz
   have z1 := (htk2.set0 8).fz
   have d3 := (htk2.set0 8).c3
   have d4 := (htk2.set0 8).c4
   clear htk2 HSC HTK HCH HBL
   go_wp2
   go_ret
   exact .tok (at0 + n) 8 0 [] _ _ HR.out (by omega) (HSC2.out.other T 0 _ hBT) (HTK2.out.set0 8) (HCH2.out.setT 0 _) rfl rfl
  have hxs2 : x.size ≤ 1000000 := by omega
  have hp : 0 < x.size := by omega
  have hp' : 0 < (x.size : Int) := by omega
  have HM : Hid (Lx.run (Lx.tl s at0) = if Lx.figure x[0] || ((x[0] == 45 || x[0] == 43) && decide (1 < x.size) && Lx.figure (Lx.pk x.data.toList 1)) then
    if (Fx.parse x.data.toList).2 = 0 then .tok ⟨9, (Fx.parse x.data.toList).1, []⟩ (Lx.tl s (at0 + n))
    else if (Fx.parse x.data.toList).2 = 5 then .err 30 else .err (Fx.parse x.data.toList).2
   else if Lx.symbol x.data.toList then .tok ⟨13, 0, x.data.toList⟩ (Lx.tl s (at0 + n))
   else .err 30) := by
   show _ = _
   have hhd : x.data.toList.headD 0 = x[0] := by rw [Lx.d_cons x hp]; rfl
   rw [HC.out, Lx.runW, hhd, Fx.size_toList, if_neg (by rw [← e0]; simpa using f1), if_neg (by rw [← e0]; simpa using f2), if_neg (by rw [← e0]; simpa using f3)]
  clear HC hxs e0
  cases g0 : Lx.figure x[0]
  case true =>
   have HN : Hid (Lx.run (Lx.tl s at0) = if (Fx.parse x.data.toList).2 = 0 then .tok ⟨9, (Fx.parse x.data.toList).1, []⟩ (Lx.tl s (at0 + n))
    else if (Fx.parse x.data.toList).2 = 5 then .err 30 else .err (Fx.parse x.data.toList).2) := by show _ = _; rw [HM.out, g0]; rfl
   clear HM
   have hP := fun w => Parse_any x w (by omega)
   obtain ⟨k, ee, hpe⟩ : ∃ k ee, Fx.parse x.data.toList = (k, ee) := ⟨_, _, rfl⟩
   rw [hpe] at hP HN
   have hP2 : ∀ w, Calls Try.prog 91 #[.string x] w fun e w' => e = .returned (.tuple #[.int .i64 k, .int .i64 ee]) ∧ w = w' := hP
   clear hP hpe
   by_cases z5 : ee = 5
   ·subst z5
    have HR : Hid (Lx.run (Lx.tl s at0) = .err 30) := HN.out
    clear HN
    go_wp2_with fail
    go_quiet (fail)
    have htk2 := (HTK.out.drew nq).other B 1 (.int .i64 ((at0 : Int) + (n : Int))) (Ne.symm hBT)
    have HSC2 := Lib.hid ((HSC.out.drew nq).step' ((at0 : Int) + (n : Int)) (at0 + n) (by omega))
    have HTK2 := Lib.hid htk2
    have HCH2 := Lib.hid ((HCH.out.drew nq).setB 1 (.int .i64 ((at0 : Int) + (n : Int))))
    have d0 := htk2.c0
    have z0 := htk2.fz
    have z1 := (htk2.set0 9).fz
    have d3 := (htk2.set0 9).c3
    have d4 := (htk2.set0 9).c4
    clear htk2 HSC HTK HCH HBL
    go_wp2_with fail
    refine (figure_any _ _).mono ?_; rintro e w4 ⟨rfl, rfl⟩
    rw [g0]
    go_wp2_with fail
    refine (hP2 _).mono ?_; rintro e w5 ⟨rfl, rfl⟩
    go_wp2
    go_ret
    exact .err (at0 + n) 9 k _ 30 _ HR.out (by omega) ((HSC2.out.other T 0 _ hBT).other T 3 _ hBT) ((HTK2.out.set0 9).set3 k) ((HCH2.out.setT 0 _).setT 3 _) rfl
   have z5' : (ee == 5) = false := by simpa using z5
   by_cases z0 : ee = 0
   ·subst z0
    have HR : Hid (Lx.run (Lx.tl s at0) = .tok ⟨9, k, []⟩ (Lx.tl s (at0 + n))) := HN.out
    clear HN
    go_wp2_with fail
    go_quiet (fail)
    have htk2 := (HTK.out.drew nq).other B 1 (.int .i64 ((at0 : Int) + (n : Int))) (Ne.symm hBT)
    have HSC2 := Lib.hid ((HSC.out.drew nq).step' ((at0 : Int) + (n : Int)) (at0 + n) (by omega))
    have HTK2 := Lib.hid htk2
    have HCH2 := Lib.hid ((HCH.out.drew nq).setB 1 (.int .i64 ((at0 : Int) + (n : Int))))
    have d0 := htk2.c0
    have z0 := htk2.fz
    have z1 := (htk2.set0 9).fz
    have d3 := (htk2.set0 9).c3
    have d4 := (htk2.set0 9).c4
    clear htk2 HSC HTK HCH HBL
    go_wp2_with fail
    refine (figure_any _ _).mono ?_; rintro e w4 ⟨rfl, rfl⟩
    rw [g0]
    go_wp2_with fail
    refine (hP2 _).mono ?_; rintro e w5 ⟨rfl, rfl⟩
    go_wp2
    go_ret
    exact .tok (at0 + n) 9 k [] _ _ HR.out (by omega) ((HSC2.out.other T 0 _ hBT).other T 3 _ hBT) ((HTK2.out.set0 9).set3 k) ((HCH2.out.setT 0 _).setT 3 _) rfl rfl
   ·have HR : Hid (Lx.run (Lx.tl s at0) = .err ee) := by show _ = _; rw [HN.out]; simp [z0, z5]
    clear HN
    go_wp2_with fail
    go_quiet (fail)
    have htk2 := (HTK.out.drew nq).other B 1 (.int .i64 ((at0 : Int) + (n : Int))) (Ne.symm hBT)
    have HSC2 := Lib.hid ((HSC.out.drew nq).step' ((at0 : Int) + (n : Int)) (at0 + n) (by omega))
    have HTK2 := Lib.hid htk2
    have HCH2 := Lib.hid ((HCH.out.drew nq).setB 1 (.int .i64 ((at0 : Int) + (n : Int))))
    have d0 := htk2.c0
    have z0 := htk2.fz
    have z1 := (htk2.set0 9).fz
    have d3 := (htk2.set0 9).c3
    have d4 := (htk2.set0 9).c4
    clear htk2 HSC HTK HCH HBL
    go_wp2_with fail
    refine (figure_any _ _).mono ?_; rintro e w4 ⟨rfl, rfl⟩
    rw [g0]
    go_wp2_with fail
    refine (hP2 _).mono ?_; rintro e w5 ⟨rfl, rfl⟩
    go_wp2
    go_ret
    exact .err (at0 + n) 9 k _ ee _ HR.out (by omega) ((HSC2.out.other T 0 _ hBT).other T 3 _ hBT) ((HTK2.out.set0 9).set3 k) ((HCH2.out.setT 0 _).setT 3 _) rfl
  have B45 := Lib.hid (Lx.beq_nat x[0] 45 (by omega))
  have B43 := Lib.hid (Lx.beq_nat x[0] 43 (by omega))
  cases c45 : ((x[0].toNat : Int) == 45)
  case true =>
   by_cases hl1 : 1 < x.size
   ·have hl1' : 1 < (x.size : Int) := by omega
    have hpk : Lx.pk x.data.toList 1 = x[1] := by have := Lx.pk_in x 0 1 (by omega); unfold Lx.tl at this; rw [List.drop_zero] at this; exact this
    rw [hpk] at HM
    clear hpk
    cases g1 : Lx.figure x[1]
    case true =>
     have HN : Hid (Lx.run (Lx.tl s at0) = if (Fx.parse x.data.toList).2 = 0 then .tok ⟨9, (Fx.parse x.data.toList).1, []⟩ (Lx.tl s (at0 + n))
       else if (Fx.parse x.data.toList).2 = 5 then .err 30 else .err (Fx.parse x.data.toList).2) := by show _ = _; rw [HM.out, g0, show (x[0] == 45) = true from B45.out.trans c45, Bool.true_or, Bool.true_and, decide_eq_true hl1, g1]; rfl
     clear HM
     clear B45 B43
     have hP := fun w => Parse_any x w (by omega)
     obtain ⟨k, ee, hpe⟩ : ∃ k ee, Fx.parse x.data.toList = (k, ee) := ⟨_, _, rfl⟩
     rw [hpe] at hP HN
     have hP2 : ∀ w, Calls Try.prog 91 #[.string x] w fun e w' => e = .returned (.tuple #[.int .i64 k, .int .i64 ee]) ∧ w = w' := hP
     clear hP hpe
     by_cases z5 : ee = 5
     ·subst z5
      have HR : Hid (Lx.run (Lx.tl s at0) = .err 30) := HN.out
      clear HN
      go_wp2_with fail
      go_quiet (fail)
      have htk2 := (HTK.out.drew nq).other B 1 (.int .i64 ((at0 : Int) + (n : Int))) (Ne.symm hBT)
      have HSC2 := Lib.hid ((HSC.out.drew nq).step' ((at0 : Int) + (n : Int)) (at0 + n) (by omega))
      have HTK2 := Lib.hid htk2
      have HCH2 := Lib.hid ((HCH.out.drew nq).setB 1 (.int .i64 ((at0 : Int) + (n : Int))))
      have d0 := htk2.c0
      have z0 := htk2.fz
      have z1 := (htk2.set0 9).fz
      have d3 := (htk2.set0 9).c3
      have d4 := (htk2.set0 9).c4
      clear htk2 HSC HTK HCH HBL
      go_wp2_with fail
      refine (figure_any _ _).mono ?_; rintro e w4 ⟨rfl, rfl⟩
      rw [g0]
      go_wp2_with fail
      refine (figure_any _ _).mono ?_; rintro e w6 ⟨rfl, rfl⟩
      rw [g1]
      go_wp2_with fail
      refine (hP2 _).mono ?_; rintro e w5 ⟨rfl, rfl⟩
      go_wp2
      go_ret
      exact .err (at0 + n) 9 k _ 30 _ HR.out (by omega) ((HSC2.out.other T 0 _ hBT).other T 3 _ hBT) ((HTK2.out.set0 9).set3 k) ((HCH2.out.setT 0 _).setT 3 _) rfl
     have z5' : (ee == 5) = false := by simpa using z5
     by_cases z0 : ee = 0
     ·subst z0
      have HR : Hid (Lx.run (Lx.tl s at0) = .tok ⟨9, k, []⟩ (Lx.tl s (at0 + n))) := HN.out
      clear HN
      go_wp2_with fail
      go_quiet (fail)
      have htk2 := (HTK.out.drew nq).other B 1 (.int .i64 ((at0 : Int) + (n : Int))) (Ne.symm hBT)
      have HSC2 := Lib.hid ((HSC.out.drew nq).step' ((at0 : Int) + (n : Int)) (at0 + n) (by omega))
      have HTK2 := Lib.hid htk2
      have HCH2 := Lib.hid ((HCH.out.drew nq).setB 1 (.int .i64 ((at0 : Int) + (n : Int))))
      have d0 := htk2.c0
      have z0 := htk2.fz
      have z1 := (htk2.set0 9).fz
      have d3 := (htk2.set0 9).c3
      have d4 := (htk2.set0 9).c4
      clear htk2 HSC HTK HCH HBL
      go_wp2_with fail
      refine (figure_any _ _).mono ?_; rintro e w4 ⟨rfl, rfl⟩
      rw [g0]
      go_wp2_with fail
      refine (figure_any _ _).mono ?_; rintro e w6 ⟨rfl, rfl⟩
      rw [g1]
      go_wp2_with fail
      refine (hP2 _).mono ?_; rintro e w5 ⟨rfl, rfl⟩
      go_wp2
      go_ret
      exact .tok (at0 + n) 9 k [] _ _ HR.out (by omega) ((HSC2.out.other T 0 _ hBT).other T 3 _ hBT) ((HTK2.out.set0 9).set3 k) ((HCH2.out.setT 0 _).setT 3 _) rfl rfl
     ·have HR : Hid (Lx.run (Lx.tl s at0) = .err ee) := by show _ = _; rw [HN.out]; simp [z0, z5]
      clear HN
      go_wp2_with fail
      go_quiet (fail)
      have htk2 := (HTK.out.drew nq).other B 1 (.int .i64 ((at0 : Int) + (n : Int))) (Ne.symm hBT)
      have HSC2 := Lib.hid ((HSC.out.drew nq).step' ((at0 : Int) + (n : Int)) (at0 + n) (by omega))
      have HTK2 := Lib.hid htk2
      have HCH2 := Lib.hid ((HCH.out.drew nq).setB 1 (.int .i64 ((at0 : Int) + (n : Int))))
      have d0 := htk2.c0
      have z0 := htk2.fz
      have z1 := (htk2.set0 9).fz
      have d3 := (htk2.set0 9).c3
      have d4 := (htk2.set0 9).c4
      clear htk2 HSC HTK HCH HBL
      go_wp2_with fail
      refine (figure_any _ _).mono ?_; rintro e w4 ⟨rfl, rfl⟩
      rw [g0]
      go_wp2_with fail
      refine (figure_any _ _).mono ?_; rintro e w6 ⟨rfl, rfl⟩
      rw [g1]
      go_wp2_with fail
      refine (hP2 _).mono ?_; rintro e w5 ⟨rfl, rfl⟩
      go_wp2
      go_ret
      exact .err (at0 + n) 9 k _ ee _ HR.out (by omega) ((HSC2.out.other T 0 _ hBT).other T 3 _ hBT) ((HTK2.out.set0 9).set3 k) ((HCH2.out.setT 0 _).setT 3 _) rfl
    case false =>
     have HN : Hid (Lx.run (Lx.tl s at0) = if Lx.symbol x.data.toList then .tok ⟨13, 0, x.data.toList⟩ (Lx.tl s (at0 + n)) else .err 30) := by show _ = _; rw [HM.out, g0, show (x[0] == 45) = true from B45.out.trans c45, Bool.true_or, Bool.true_and, g1, Bool.and_false, Bool.or_false]; rfl
     clear HM
     clear B45 B43
     cases hsy : Lx.symbol x.data.toList
     case false =>
      have HR : Hid (Lx.run (Lx.tl s at0) = .err 30) := by show _ = _; rw [HN.out, hsy]; rfl
      have hS := fun w => Symbol_any x w hxs2
      rw [hsy] at hS
      clear HN hsy
      go_wp2_with fail
      go_quiet (fail)
      have htk2 := (HTK.out.drew nq).other B 1 (.int .i64 ((at0 : Int) + (n : Int))) (Ne.symm hBT)
      have HSC2 := Lib.hid ((HSC.out.drew nq).step' ((at0 : Int) + (n : Int)) (at0 + n) (by omega))
      have HTK2 := Lib.hid htk2
      have HCH2 := Lib.hid ((HCH.out.drew nq).setB 1 (.int .i64 ((at0 : Int) + (n : Int))))
      have d0 := htk2.c0
      have z0 := htk2.fz
      have z1 := (htk2.set0 13).fz
      have d3 := (htk2.set0 13).c3
      have d4 := (htk2.set0 13).c4
      clear htk2 HSC HTK HCH HBL
      go_wp2_with fail
      refine (figure_any _ _).mono ?_; rintro e w4 ⟨rfl, rfl⟩
      rw [g0]
      go_wp2_with fail
      refine (figure_any _ _).mono ?_; rintro e w6 ⟨rfl, rfl⟩
      rw [g1]
      go_wp2_with fail
      refine (hS _).mono ?_; rintro e w5 ⟨rfl, rfl⟩
      go_wp2
      go_ret
      exact .err (at0 + n) 0 0 _ 30 _ HR.out (by omega) HSC2.out HTK2.out HCH2.out rfl
     case true =>
      have HR : Hid (Lx.run (Lx.tl s at0) = .tok ⟨13, 0, x.data.toList⟩ (Lx.tl s (at0 + n))) := by show _ = _; rw [HN.out, hsy]; rfl
      have hS := fun w => Symbol_any x w hxs2
      rw [hsy] at hS
      clear HN hsy
      go_wp2_with fail
      go_quiet (fail)
      have htk2 := (HTK.out.drew nq).other B 1 (.int .i64 ((at0 : Int) + (n : Int))) (Ne.symm hBT)
      have HSC2 := Lib.hid ((HSC.out.drew nq).step' ((at0 : Int) + (n : Int)) (at0 + n) (by omega))
      have HTK2 := Lib.hid htk2
      have HCH2 := Lib.hid ((HCH.out.drew nq).setB 1 (.int .i64 ((at0 : Int) + (n : Int))))
      have d0 := htk2.c0
      have z0 := htk2.fz
      have z1 := (htk2.set0 13).fz
      have d3 := (htk2.set0 13).c3
      have d4 := (htk2.set0 13).c4
      clear htk2 HSC HTK HCH HBL
      go_wp2_with fail
      refine (figure_any _ _).mono ?_; rintro e w4 ⟨rfl, rfl⟩
      rw [g0]
      go_wp2_with fail
      refine (figure_any _ _).mono ?_; rintro e w6 ⟨rfl, rfl⟩
      rw [g1]
      go_wp2_with fail
      refine (hS _).mono ?_; rintro e w5 ⟨rfl, rfl⟩
      go_wp2
      go_ret
      exact .tok (at0 + n) 13 0 x.data.toList _ _ HR.out (by omega) ((HSC2.out.other T 0 _ hBT).other T 4 _ hBT) ((HTK2.out.set0 13).set4 x) ((HCH2.out.setT 0 _).setT 4 _) rfl rfl
   ·have hl1' : ¬ 1 < (x.size : Int) := by omega
    have HN : Hid (Lx.run (Lx.tl s at0) = if Lx.symbol x.data.toList then .tok ⟨13, 0, x.data.toList⟩ (Lx.tl s (at0 + n)) else .err 30) := by show _ = _; rw [HM.out, g0, decide_eq_false hl1, Bool.and_false, Bool.false_and, Bool.or_false]; rfl
    clear HM
    clear B45 B43
    cases hsy : Lx.symbol x.data.toList
    case false =>
     have HR : Hid (Lx.run (Lx.tl s at0) = .err 30) := by show _ = _; rw [HN.out, hsy]; rfl
     have hS := fun w => Symbol_any x w hxs2
     rw [hsy] at hS
     clear HN hsy
     go_wp2_with fail
     go_quiet (fail)
     have htk2 := (HTK.out.drew nq).other B 1 (.int .i64 ((at0 : Int) + (n : Int))) (Ne.symm hBT)
     have HSC2 := Lib.hid ((HSC.out.drew nq).step' ((at0 : Int) + (n : Int)) (at0 + n) (by omega))
     have HTK2 := Lib.hid htk2
     have HCH2 := Lib.hid ((HCH.out.drew nq).setB 1 (.int .i64 ((at0 : Int) + (n : Int))))
     have d0 := htk2.c0
     have z0 := htk2.fz
     have z1 := (htk2.set0 13).fz
     have d3 := (htk2.set0 13).c3
     have d4 := (htk2.set0 13).c4
     clear htk2 HSC HTK HCH HBL
     go_wp2_with fail
     refine (figure_any _ _).mono ?_; rintro e w4 ⟨rfl, rfl⟩
     rw [g0]
     go_wp2_with fail
     refine (hS _).mono ?_; rintro e w5 ⟨rfl, rfl⟩
     go_wp2
     go_ret
     exact .err (at0 + n) 0 0 _ 30 _ HR.out (by omega) HSC2.out HTK2.out HCH2.out rfl
    case true =>
     have HR : Hid (Lx.run (Lx.tl s at0) = .tok ⟨13, 0, x.data.toList⟩ (Lx.tl s (at0 + n))) := by show _ = _; rw [HN.out, hsy]; rfl
     have hS := fun w => Symbol_any x w hxs2
     rw [hsy] at hS
     clear HN hsy
     go_wp2_with fail
     go_quiet (fail)
     have htk2 := (HTK.out.drew nq).other B 1 (.int .i64 ((at0 : Int) + (n : Int))) (Ne.symm hBT)
     have HSC2 := Lib.hid ((HSC.out.drew nq).step' ((at0 : Int) + (n : Int)) (at0 + n) (by omega))
     have HTK2 := Lib.hid htk2
     have HCH2 := Lib.hid ((HCH.out.drew nq).setB 1 (.int .i64 ((at0 : Int) + (n : Int))))
     have d0 := htk2.c0
     have z0 := htk2.fz
     have z1 := (htk2.set0 13).fz
     have d3 := (htk2.set0 13).c3
     have d4 := (htk2.set0 13).c4
     clear htk2 HSC HTK HCH HBL
     go_wp2_with fail
     refine (figure_any _ _).mono ?_; rintro e w4 ⟨rfl, rfl⟩
     rw [g0]
     go_wp2_with fail
     refine (hS _).mono ?_; rintro e w5 ⟨rfl, rfl⟩
     go_wp2
     go_ret
     exact .tok (at0 + n) 13 0 x.data.toList _ _ HR.out (by omega) ((HSC2.out.other T 0 _ hBT).other T 4 _ hBT) ((HTK2.out.set0 13).set4 x) ((HCH2.out.setT 0 _).setT 4 _) rfl rfl
  cases c43 : ((x[0].toNat : Int) == 43)
  case true =>
   by_cases hl1 : 1 < x.size
   ·have hl1' : 1 < (x.size : Int) := by omega
    have hpk : Lx.pk x.data.toList 1 = x[1] := by have := Lx.pk_in x 0 1 (by omega); unfold Lx.tl at this; rw [List.drop_zero] at this; exact this
    rw [hpk] at HM
    clear hpk
    cases g1 : Lx.figure x[1]
    case true =>
     have HN : Hid (Lx.run (Lx.tl s at0) = if (Fx.parse x.data.toList).2 = 0 then .tok ⟨9, (Fx.parse x.data.toList).1, []⟩ (Lx.tl s (at0 + n))
       else if (Fx.parse x.data.toList).2 = 5 then .err 30 else .err (Fx.parse x.data.toList).2) := by show _ = _; rw [HM.out, g0, show (x[0] == 45) = false from B45.out.trans c45, show (x[0] == 43) = true from B43.out.trans c43, Bool.or_true, Bool.true_and, decide_eq_true hl1, g1]; rfl
     clear HM
     clear B45 B43
     have hP := fun w => Parse_any x w (by omega)
     obtain ⟨k, ee, hpe⟩ : ∃ k ee, Fx.parse x.data.toList = (k, ee) := ⟨_, _, rfl⟩
     rw [hpe] at hP HN
     have hP2 : ∀ w, Calls Try.prog 91 #[.string x] w fun e w' => e = .returned (.tuple #[.int .i64 k, .int .i64 ee]) ∧ w = w' := hP
     clear hP hpe
     by_cases z5 : ee = 5
     ·subst z5
      have HR : Hid (Lx.run (Lx.tl s at0) = .err 30) := HN.out
      clear HN
      go_wp2_with fail
      go_quiet (fail)
      have htk2 := (HTK.out.drew nq).other B 1 (.int .i64 ((at0 : Int) + (n : Int))) (Ne.symm hBT)
      have HSC2 := Lib.hid ((HSC.out.drew nq).step' ((at0 : Int) + (n : Int)) (at0 + n) (by omega))
      have HTK2 := Lib.hid htk2
      have HCH2 := Lib.hid ((HCH.out.drew nq).setB 1 (.int .i64 ((at0 : Int) + (n : Int))))
      have d0 := htk2.c0
      have z0 := htk2.fz
      have z1 := (htk2.set0 9).fz
      have d3 := (htk2.set0 9).c3
      have d4 := (htk2.set0 9).c4
      clear htk2 HSC HTK HCH HBL
      go_wp2_with fail
      refine (figure_any _ _).mono ?_; rintro e w4 ⟨rfl, rfl⟩
      rw [g0]
      go_wp2_with fail
      refine (figure_any _ _).mono ?_; rintro e w6 ⟨rfl, rfl⟩
      rw [g1]
      go_wp2_with fail
      refine (hP2 _).mono ?_; rintro e w5 ⟨rfl, rfl⟩
      go_wp2
      go_ret
      exact .err (at0 + n) 9 k _ 30 _ HR.out (by omega) ((HSC2.out.other T 0 _ hBT).other T 3 _ hBT) ((HTK2.out.set0 9).set3 k) ((HCH2.out.setT 0 _).setT 3 _) rfl
     have z5' : (ee == 5) = false := by simpa using z5
     by_cases z0 : ee = 0
     ·subst z0
      have HR : Hid (Lx.run (Lx.tl s at0) = .tok ⟨9, k, []⟩ (Lx.tl s (at0 + n))) := HN.out
      clear HN
      go_wp2_with fail
      go_quiet (fail)
      have htk2 := (HTK.out.drew nq).other B 1 (.int .i64 ((at0 : Int) + (n : Int))) (Ne.symm hBT)
      have HSC2 := Lib.hid ((HSC.out.drew nq).step' ((at0 : Int) + (n : Int)) (at0 + n) (by omega))
      have HTK2 := Lib.hid htk2
      have HCH2 := Lib.hid ((HCH.out.drew nq).setB 1 (.int .i64 ((at0 : Int) + (n : Int))))
      have d0 := htk2.c0
      have z0 := htk2.fz
      have z1 := (htk2.set0 9).fz
      have d3 := (htk2.set0 9).c3
      have d4 := (htk2.set0 9).c4
      clear htk2 HSC HTK HCH HBL
      go_wp2_with fail
      refine (figure_any _ _).mono ?_; rintro e w4 ⟨rfl, rfl⟩
      rw [g0]
      go_wp2_with fail
      refine (figure_any _ _).mono ?_; rintro e w6 ⟨rfl, rfl⟩
      rw [g1]
      go_wp2_with fail
      refine (hP2 _).mono ?_; rintro e w5 ⟨rfl, rfl⟩
      go_wp2
      go_ret
      exact .tok (at0 + n) 9 k [] _ _ HR.out (by omega) ((HSC2.out.other T 0 _ hBT).other T 3 _ hBT) ((HTK2.out.set0 9).set3 k) ((HCH2.out.setT 0 _).setT 3 _) rfl rfl
     ·have HR : Hid (Lx.run (Lx.tl s at0) = .err ee) := by show _ = _; rw [HN.out]; simp [z0, z5]
      clear HN
      go_wp2_with fail
      go_quiet (fail)
      have htk2 := (HTK.out.drew nq).other B 1 (.int .i64 ((at0 : Int) + (n : Int))) (Ne.symm hBT)
      have HSC2 := Lib.hid ((HSC.out.drew nq).step' ((at0 : Int) + (n : Int)) (at0 + n) (by omega))
      have HTK2 := Lib.hid htk2
      have HCH2 := Lib.hid ((HCH.out.drew nq).setB 1 (.int .i64 ((at0 : Int) + (n : Int))))
      have d0 := htk2.c0
      have z0 := htk2.fz
      have z1 := (htk2.set0 9).fz
      have d3 := (htk2.set0 9).c3
      have d4 := (htk2.set0 9).c4
      clear htk2 HSC HTK HCH HBL
      go_wp2_with fail
      refine (figure_any _ _).mono ?_; rintro e w4 ⟨rfl, rfl⟩
      rw [g0]
      go_wp2_with fail
      refine (figure_any _ _).mono ?_; rintro e w6 ⟨rfl, rfl⟩
      rw [g1]
      go_wp2_with fail
      refine (hP2 _).mono ?_; rintro e w5 ⟨rfl, rfl⟩
      go_wp2
      go_ret
      exact .err (at0 + n) 9 k _ ee _ HR.out (by omega) ((HSC2.out.other T 0 _ hBT).other T 3 _ hBT) ((HTK2.out.set0 9).set3 k) ((HCH2.out.setT 0 _).setT 3 _) rfl
    case false =>
     have HN : Hid (Lx.run (Lx.tl s at0) = if Lx.symbol x.data.toList then .tok ⟨13, 0, x.data.toList⟩ (Lx.tl s (at0 + n)) else .err 30) := by show _ = _; rw [HM.out, g0, show (x[0] == 45) = false from B45.out.trans c45, show (x[0] == 43) = true from B43.out.trans c43, Bool.or_true, Bool.true_and, g1, Bool.and_false, Bool.or_false]; rfl
     clear HM
     clear B45 B43
     cases hsy : Lx.symbol x.data.toList
     case false =>
      have HR : Hid (Lx.run (Lx.tl s at0) = .err 30) := by show _ = _; rw [HN.out, hsy]; rfl
      have hS := fun w => Symbol_any x w hxs2
      rw [hsy] at hS
      clear HN hsy
      go_wp2_with fail
      go_quiet (fail)
      have htk2 := (HTK.out.drew nq).other B 1 (.int .i64 ((at0 : Int) + (n : Int))) (Ne.symm hBT)
      have HSC2 := Lib.hid ((HSC.out.drew nq).step' ((at0 : Int) + (n : Int)) (at0 + n) (by omega))
      have HTK2 := Lib.hid htk2
      have HCH2 := Lib.hid ((HCH.out.drew nq).setB 1 (.int .i64 ((at0 : Int) + (n : Int))))
      have d0 := htk2.c0
      have z0 := htk2.fz
      have z1 := (htk2.set0 13).fz
      have d3 := (htk2.set0 13).c3
      have d4 := (htk2.set0 13).c4
      clear htk2 HSC HTK HCH HBL
      go_wp2_with fail
      refine (figure_any _ _).mono ?_; rintro e w4 ⟨rfl, rfl⟩
      rw [g0]
      go_wp2_with fail
      refine (figure_any _ _).mono ?_; rintro e w6 ⟨rfl, rfl⟩
      rw [g1]
      go_wp2_with fail
      refine (hS _).mono ?_; rintro e w5 ⟨rfl, rfl⟩
      go_wp2
      go_ret
      exact .err (at0 + n) 0 0 _ 30 _ HR.out (by omega) HSC2.out HTK2.out HCH2.out rfl
     case true =>
      have HR : Hid (Lx.run (Lx.tl s at0) = .tok ⟨13, 0, x.data.toList⟩ (Lx.tl s (at0 + n))) := by show _ = _; rw [HN.out, hsy]; rfl
      have hS := fun w => Symbol_any x w hxs2
      rw [hsy] at hS
      clear HN hsy
      go_wp2_with fail
      go_quiet (fail)
      have htk2 := (HTK.out.drew nq).other B 1 (.int .i64 ((at0 : Int) + (n : Int))) (Ne.symm hBT)
      have HSC2 := Lib.hid ((HSC.out.drew nq).step' ((at0 : Int) + (n : Int)) (at0 + n) (by omega))
      have HTK2 := Lib.hid htk2
      have HCH2 := Lib.hid ((HCH.out.drew nq).setB 1 (.int .i64 ((at0 : Int) + (n : Int))))
      have d0 := htk2.c0
      have z0 := htk2.fz
      have z1 := (htk2.set0 13).fz
      have d3 := (htk2.set0 13).c3
      have d4 := (htk2.set0 13).c4
      clear htk2 HSC HTK HCH HBL
      go_wp2_with fail
      refine (figure_any _ _).mono ?_; rintro e w4 ⟨rfl, rfl⟩
      rw [g0]
      go_wp2_with fail
      refine (figure_any _ _).mono ?_; rintro e w6 ⟨rfl, rfl⟩
      rw [g1]
      go_wp2_with fail
      refine (hS _).mono ?_; rintro e w5 ⟨rfl, rfl⟩
      go_wp2
      go_ret
      exact .tok (at0 + n) 13 0 x.data.toList _ _ HR.out (by omega) ((HSC2.out.other T 0 _ hBT).other T 4 _ hBT) ((HTK2.out.set0 13).set4 x) ((HCH2.out.setT 0 _).setT 4 _) rfl rfl
   ·have hl1' : ¬ 1 < (x.size : Int) := by omega
    have HN : Hid (Lx.run (Lx.tl s at0) = if Lx.symbol x.data.toList then .tok ⟨13, 0, x.data.toList⟩ (Lx.tl s (at0 + n)) else .err 30) := by show _ = _; rw [HM.out, g0, decide_eq_false hl1, Bool.and_false, Bool.false_and, Bool.or_false]; rfl
    clear HM
    clear B45 B43
    cases hsy : Lx.symbol x.data.toList
    case false =>
     have HR : Hid (Lx.run (Lx.tl s at0) = .err 30) := by show _ = _; rw [HN.out, hsy]; rfl
     have hS := fun w => Symbol_any x w hxs2
     rw [hsy] at hS
     clear HN hsy
     go_wp2_with fail
     go_quiet (fail)
     have htk2 := (HTK.out.drew nq).other B 1 (.int .i64 ((at0 : Int) + (n : Int))) (Ne.symm hBT)
     have HSC2 := Lib.hid ((HSC.out.drew nq).step' ((at0 : Int) + (n : Int)) (at0 + n) (by omega))
     have HTK2 := Lib.hid htk2
     have HCH2 := Lib.hid ((HCH.out.drew nq).setB 1 (.int .i64 ((at0 : Int) + (n : Int))))
     have d0 := htk2.c0
     have z0 := htk2.fz
     have z1 := (htk2.set0 13).fz
     have d3 := (htk2.set0 13).c3
     have d4 := (htk2.set0 13).c4
     clear htk2 HSC HTK HCH HBL
     go_wp2_with fail
     refine (figure_any _ _).mono ?_; rintro e w4 ⟨rfl, rfl⟩
     rw [g0]
     go_wp2_with fail
     refine (hS _).mono ?_; rintro e w5 ⟨rfl, rfl⟩
     go_wp2
     go_ret
     exact .err (at0 + n) 0 0 _ 30 _ HR.out (by omega) HSC2.out HTK2.out HCH2.out rfl
    case true =>
     have HR : Hid (Lx.run (Lx.tl s at0) = .tok ⟨13, 0, x.data.toList⟩ (Lx.tl s (at0 + n))) := by show _ = _; rw [HN.out, hsy]; rfl
     have hS := fun w => Symbol_any x w hxs2
     rw [hsy] at hS
     clear HN hsy
     go_wp2_with fail
     go_quiet (fail)
     have htk2 := (HTK.out.drew nq).other B 1 (.int .i64 ((at0 : Int) + (n : Int))) (Ne.symm hBT)
     have HSC2 := Lib.hid ((HSC.out.drew nq).step' ((at0 : Int) + (n : Int)) (at0 + n) (by omega))
     have HTK2 := Lib.hid htk2
     have HCH2 := Lib.hid ((HCH.out.drew nq).setB 1 (.int .i64 ((at0 : Int) + (n : Int))))
     have d0 := htk2.c0
     have z0 := htk2.fz
     have z1 := (htk2.set0 13).fz
     have d3 := (htk2.set0 13).c3
     have d4 := (htk2.set0 13).c4
     clear htk2 HSC HTK HCH HBL
     go_wp2_with fail
     refine (figure_any _ _).mono ?_; rintro e w4 ⟨rfl, rfl⟩
     rw [g0]
     go_wp2_with fail
     refine (hS _).mono ?_; rintro e w5 ⟨rfl, rfl⟩
     go_wp2
     go_ret
     exact .tok (at0 + n) 13 0 x.data.toList _ _ HR.out (by omega) ((HSC2.out.other T 0 _ hBT).other T 4 _ hBT) ((HTK2.out.set0 13).set4 x) ((HCH2.out.setT 0 _).setT 4 _) rfl rfl
  case false =>
   have HN : Hid (Lx.run (Lx.tl s at0) = if Lx.symbol x.data.toList then .tok ⟨13, 0, x.data.toList⟩ (Lx.tl s (at0 + n)) else .err 30) := by show _ = _; rw [HM.out, g0, show (x[0] == 45) = false from B45.out.trans c45, show (x[0] == 43) = false from B43.out.trans c43, Bool.or_false, Bool.false_and, Bool.false_and, Bool.or_false]; rfl
   clear HM
   clear B45 B43
   cases hsy : Lx.symbol x.data.toList
   case false =>
    have HR : Hid (Lx.run (Lx.tl s at0) = .err 30) := by show _ = _; rw [HN.out, hsy]; rfl
    have hS := fun w => Symbol_any x w hxs2
    rw [hsy] at hS
    clear HN hsy
    go_wp2_with fail
    go_quiet (fail)
    have htk2 := (HTK.out.drew nq).other B 1 (.int .i64 ((at0 : Int) + (n : Int))) (Ne.symm hBT)
    have HSC2 := Lib.hid ((HSC.out.drew nq).step' ((at0 : Int) + (n : Int)) (at0 + n) (by omega))
    have HTK2 := Lib.hid htk2
    have HCH2 := Lib.hid ((HCH.out.drew nq).setB 1 (.int .i64 ((at0 : Int) + (n : Int))))
    have d0 := htk2.c0
    have z0 := htk2.fz
    have z1 := (htk2.set0 13).fz
    have d3 := (htk2.set0 13).c3
    have d4 := (htk2.set0 13).c4
    clear htk2 HSC HTK HCH HBL
    go_wp2_with fail
    refine (figure_any _ _).mono ?_; rintro e w4 ⟨rfl, rfl⟩
    rw [g0]
    go_wp2_with fail
    refine (hS _).mono ?_; rintro e w5 ⟨rfl, rfl⟩
    go_wp2
    go_ret
    exact .err (at0 + n) 0 0 _ 30 _ HR.out (by omega) HSC2.out HTK2.out HCH2.out rfl
   case true =>
    have HR : Hid (Lx.run (Lx.tl s at0) = .tok ⟨13, 0, x.data.toList⟩ (Lx.tl s (at0 + n))) := by show _ = _; rw [HN.out, hsy]; rfl
    have hS := fun w => Symbol_any x w hxs2
    rw [hsy] at hS
    clear HN hsy
    go_wp2_with fail
    go_quiet (fail)
    have htk2 := (HTK.out.drew nq).other B 1 (.int .i64 ((at0 : Int) + (n : Int))) (Ne.symm hBT)
    have HSC2 := Lib.hid ((HSC.out.drew nq).step' ((at0 : Int) + (n : Int)) (at0 + n) (by omega))
    have HTK2 := Lib.hid htk2
    have HCH2 := Lib.hid ((HCH.out.drew nq).setB 1 (.int .i64 ((at0 : Int) + (n : Int))))
    have d0 := htk2.c0
    have z0 := htk2.fz
    have z1 := (htk2.set0 13).fz
    have d3 := (htk2.set0 13).c3
    have d4 := (htk2.set0 13).c4
    clear htk2 HSC HTK HCH HBL
    go_wp2_with fail
    refine (figure_any _ _).mono ?_; rintro e w4 ⟨rfl, rfl⟩
    rw [g0]
    go_wp2_with fail
    refine (hS _).mono ?_; rintro e w5 ⟨rfl, rfl⟩
    go_wp2
    go_ret
    exact .tok (at0 + n) 13 0 x.data.toList _ _ HR.out (by omega) ((HSC2.out.other T 0 _ hBT).other T 4 _ hBT) ((HTK2.out.set0 13).set4 x) ((HCH2.out.setT 0 _).setT 4 _) rfl rfl
end Go.Proofs.Ytcopdfihaheplaa
