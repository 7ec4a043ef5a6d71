/-
 The walk of names and char: a character.
-/
import Derived.Test.YtcopdfihaheplaaLexStr
namespace Go.Proofs.Ytcopdfihaheplaa
open Go.RowKit Go.Sort
namespace Lx
theorem names_bool (s : ByteArray) (h1 : s.size ≠ 1) : names s.data.toList =
  if s.toList == [115, 112, 97, 99, 101] then 32
  else if s.toList == [110, 101, 119, 108, 105, 110, 101] then 10
  else if s.toList == [116, 97, 98] then 9
  else if s.toList == [110, 117, 108] then 0
  else if s.size = 3 ∧ s.data.toList.headD 0 = 120 then two (tl s 1)
  else -1 := by
 unfold names
 rw [ByteArray.toList_eq, if_neg (by rw [Fx.size_toList]; exact h1), Fx.size_toList]
 simp only [beq_iff_eq]
 rw [show s.data.toList.tail = tl s 1 by unfold tl; simp]
theorem b8 (c : UInt8) : 0 ≤ (c.toNat : Int) ∧ (c.toNat : Int) ≤ 255 := by
 have := c.toNat_lt
 omega
end Lx
set_option maxRecDepth 100000 in
theorem names_any (s : ByteArray) (w : World) (_hs : s.size ≤ 1000000) :
  Calls Try.prog 88 #[.string s] w fun e w' => e = .returned (.int .i64 (Lx.names s.data.toList)) ∧ ∃ k, w' = w.drewN k := by
 have hsz := Fx.size_toList s
 by_cases h1 : s.size = 1
 ·have hp : 0 < s.size := by omega
  have hpi : (s.size : Int) = 1 := by omega
  have HR : Hid (Lx.names s.data.toList = (s[0].toNat : Int)) := by
   show _ = _
   unfold Lx.names
   rw [if_pos (by omega)]
   rw [Lx.d_cons s hp]
   rfl
  have hb := Lx.b8 s[0]
  go_enter Try.func88, Try.ntmps88
  go_wp2
  go_ret
  exact ⟨by rw [HR.out]; congr 2, 0, rfl⟩
 have HN := Lib.hid (Lx.names_bool s h1)
 have hpi : ((s.size : Int) == 1) = false := by rw [beq_eq_false_iff_ne]; omega
 cases f1 : (s.toList == [115, 112, 97, 99, 101])
 case true =>
  have HR : Hid (Lx.names s.data.toList = 32) := by show _ = _; rw [HN.out, f1]; rfl
  go_enter Try.func88, Try.ntmps88
  go_wp2
  go_ret
  exact ⟨by rw [HR.out]; rfl, 0, rfl⟩
 cases f2 : (s.toList == [110, 101, 119, 108, 105, 110, 101])
 case true =>
  have HR : Hid (Lx.names s.data.toList = 10) := by show _ = _; rw [HN.out, f1, f2]; rfl
  go_enter Try.func88, Try.ntmps88
  go_wp2
  go_ret
  exact ⟨by rw [HR.out]; rfl, 0, rfl⟩
 cases f3 : (s.toList == [116, 97, 98])
 case true =>
  have HR : Hid (Lx.names s.data.toList = 9) := by show _ = _; rw [HN.out, f1, f2, f3]; rfl
  go_enter Try.func88, Try.ntmps88
  go_wp2
  go_ret
  exact ⟨by rw [HR.out]; rfl, 0, rfl⟩
 cases f4 : (s.toList == [110, 117, 108])
 case true =>
  have HR : Hid (Lx.names s.data.toList = 0) := by show _ = _; rw [HN.out, f1, f2, f3, f4]; rfl
  go_enter Try.func88, Try.ntmps88
  go_wp2
  go_ret
  exact ⟨by rw [HR.out]; rfl, 0, rfl⟩
 have HN2 : Hid (Lx.names s.data.toList = if s.size = 3 ∧ s.data.toList.headD 0 = 120 then Lx.two (Lx.tl s 1) else -1) := by
  show _ = _; rw [HN.out, f1, f2, f3, f4]; rfl
 clear HN
 by_cases h3 : s.size = 3
 ·have hp : 0 < s.size := by omega
  have hp' : 0 < (s.size : Int) := by omega
  have h3' : ((s.size : Int) == 3) = true := by rw [beq_iff_eq]; omega
  have b120 := Lx.beq_nat s[0] 120 (by omega)
  have hhd : s.data.toList.headD 0 = s[0] := by rw [Lx.d_cons s hp]; rfl
  cases f120 : ((s[0].toNat : Int) == 120)
  ·have HR : Hid (Lx.names s.data.toList = -1) := by
    show _ = _
    rw [HN2.out, if_neg]
    rintro ⟨_, h⟩
    rw [hhd] at h
    rw [h] at b120
    rw [h] at f120
    simp at f120
   clear b120 hhd
   go_enter Try.func88, Try.ntmps88
   go_wp2
   go_ret
   exact ⟨by rw [HR.out]; rfl, 0, rfl⟩
  ·have HR : Hid (Lx.names s.data.toList = Lx.two (s.extract 1 s.size).data.toList) := by
    show _ = _
    rw [HN2.out, if_pos ⟨h3, by rw [hhd]; simpa using b120.trans f120⟩, Lx.d_ext]
    rfl
   have hx : (s.extract 1 s.size).size ≤ 1000000 := by
    rw [← Fx.size_toList, Lx.d_ext, List.length_drop, Fx.size_toList]; omega
   have ht := fun w => two_any (s.extract 1 s.size) w (by omega)
   rw [h3] at ht HR
   obtain ⟨n, hn⟩ : ∃ n, Lx.two (s.extract 1 3).data.toList = n := ⟨_, rfl⟩
   rw [hn] at ht HR
   clear hn
   clear b120 hhd hx HN2 hsz h1
   go_enter Try.func88, Try.ntmps88
   go_wp2_with (go_at_call 102; refine (ht _).mono ?_; rintro e w1 ⟨rfl, k1, rfl⟩)
   go_ret
   exact ⟨by rw [HR.out]; rfl, k1, rfl⟩
 ·have HR : Hid (Lx.names s.data.toList = -1) := by
   show _ = _
   rw [HN2.out, if_neg (by rintro ⟨h, _⟩; exact h3 h)]
  have h3' : ((s.size : Int) == 3) = false := by rw [beq_eq_false_iff_ne]; omega
  go_enter Try.func88, Try.ntmps88
  go_wp2
  go_ret
  exact ⟨by rw [HR.out]; rfl, 0, rfl⟩
namespace Lx
theorem run_len (f : UInt8 → Bool) (s : ByteArray) (b k : Nat) (hb : b ≤ k) (hk : k ≤ s.size) (hin : ∀ j, b ≤ j → (h : j < k) → f (s[j]'(by omega)) = true) (hout : (h : k < s.size) → f s[k] = false) : ((tl s b).takeWhile f).length = k - b := by
 induction hd : k - b generalizing b with
 | zero =>
  have : b = k := by omega
  subst this
  by_cases h : b < s.size
  ·rw [tl_cons s b h, List.takeWhile_cons_of_neg (by rw [hout h]; simp)]; rfl
  ·rw [tl_nil s b (by omega)]; rfl
 | succ d ih =>
  rw [tl_cons s b (by omega), List.takeWhile_cons_of_pos (hin b (Nat.le_refl _) (by omega)), List.length_cons, ih (b + 1) (by omega) (fun j h1 h2 => hin j (by omega) h2) (by omega)]
theorem low_int (c : UInt8) : low c = (decide (97 ≤ (c.toNat : Int)) && decide ((c.toNat : Int) ≤ 122)) := by
 unfold low
 congr 1 <;> (rw [decide_eq_decide]; omega)
def cont (c : UInt8) (n : Nat) : Bool := low c || (decide (0 < n) && figure c)
def Inv (r : ByteArray) (n : Nat) : Prop := ∀ j, j < n → (h : j < r.size) → cont r[j] j = true
theorem Inv.next {r : ByteArray} {n : Nat} (h : Inv r n) (hn : n < r.size) (hc : cont r[n] n = true) : Inv r (n + 1) := by
 intro j hj h'
 by_cases e : j = n
 ·subst e; exact hc
 ·exact h j (by omega) h'
theorem nameLen_eq (r : ByteArray) (n : Nat) (hn : n ≤ r.size) (h0 : 0 < r.size) (hi : Inv r n) (ho : (h : n < r.size) → cont r[n] n = false) : nameLen r.data.toList = if n = 0 then 1 else n := by
 have e0 : r.data.toList = tl r 0 := by unfold tl; simp
 rw [e0]
 unfold nameLen
 rw [pk_in r 0 0 h0, tl_tail]
 show (if low r[0] = true then _ else _) = _
 by_cases hz : n = 0
 ·subst hz
  have := ho h0
  unfold cont at this
  have h1 : low r[0] = false := by simpa using this
  rw [h1]; rfl
 ·have h1 := hi 0 (by omega) h0
  unfold cont at h1
  have h1 : low r[0] = true := by simpa using h1
  rw [if_pos h1, if_neg hz, run_len _ r 1 n (by omega) hn (fun j h1 h2 => by
   have := hi j h2 (by omega)
   unfold cont at this
   rw [show decide (0 < j) = true by simp; omega] at this
   simpa using this) (fun h => by
   have := ho h
   unfold cont at this
   rw [show decide (0 < n) = true by simp; omega] at this
   simpa using this)]
  omega
theorem cont_int (c : UInt8) (n : Nat) : cont c n = ((decide (97 ≤ (c.toNat : Int)) && decide ((c.toNat : Int) ≤ 122)) || (decide (0 < n) && (decide (48 ≤ (c.toNat : Int)) && decide ((c.toNat : Int) ≤ 57)))) := by
 unfold cont
 rw [low_int, fig_int]
end Lx
set_option maxRecDepth 100000 in
set_option maxHeartbeats 4000000 in
theorem char_any (B T at0 : Nat) (a : Int) (s : ByteArray) (w : World) (h : Lx.Scan w B s at0) (ht : Lx.TkAt w T 0 a 0 0 ⟨#[]⟩) (hBT : B ≠ T) (hs : s.size ≤ 1000000) (ha : at0 + 2 ≤ s.size) :
  Calls Try.prog 65 #[.pointer (some ⟨B, 0, none⟩), .pointer (some ⟨T, 0, none⟩)] w (Lx.TokPost B T s a (Lx.char (Lx.tl s at0)) w) := by
 have c0 := h.c0
 have c1 := h.c1
 obtain ⟨r, hr⟩ : ∃ r, s.extract (at0 + 2) s.size = r := ⟨_, rfl⟩
 have hrl : r.data.toList = Lx.tl s (at0 + 2) := by rw [← hr]; exact Lx.ext_tl s (at0 + 2)
 have hrs : r.size + (at0 + 2) = s.size := by
  have := congrArg List.length hrl
  rw [Fx.size_toList, Lx.tl_len] at this
  omega
 have HC : Hid (Lx.char (Lx.tl s at0) = if r.data.toList = [] then .err 31
   else if Lx.names (r.data.toList.take (Lx.nameLen r.data.toList)) < 0 || Lx.white (Lx.pk r.data.toList 0) then .err 30
   else .tok ⟨11, Lx.names (r.data.toList.take (Lx.nameLen r.data.toList)), []⟩ (r.data.toList.drop (Lx.nameLen r.data.toList))) := by
  show _ = _
  unfold Lx.char
  rw [Lx.tl_drop, ← hrl, show Lx.pk (Lx.tl s at0) 2 = Lx.pk r.data.toList 0 by rw [hrl]; unfold Lx.pk Lx.tl; rw [List.getD_eq_getElem?_getD, List.getD_eq_getElem?_getD, List.getElem?_drop, List.getElem?_drop]]
 have hw1 : IntKind.i64.wrap ((at0 : Int) + 2) = (at0 : Int) + 2 := IntWalk.i64_in _ (by omega)
 have hw2 : 0 ≤ (at0 : Int) + 2 := by omega
 have hw3 : ((at0 : Int) + 2).toNat = at0 + 2 := by omega
 have hw4 : (at0 : Int) + 2 ≤ (s.size : Int) := by omega
 have hsc := h
 have htk := ht
 by_cases h0 : r.size = 0
 ·have hem : r.toList.isEmpty = true := by rw [ByteArray.toList_eq]; have := Fx.size_toList r; rw [h0] at this; rw [List.eq_nil_of_length_eq_zero this]; rfl
  have HR : Hid (Lx.char (Lx.tl s at0) = .err 31) := by
   show _ = _
   rw [HC.out, if_pos (List.eq_nil_of_length_eq_zero (by rw [Fx.size_toList]; exact h0))]
  clear HC
  go_enter Try.func65, Try.ntmps65
  go_wp2_with fail
  go_quiet (fail)
  go_wp2
  go_ret
  exact .err at0 0 0 _ 31 _ HR.out (by omega) (hsc.drew _) (htk.drew _) ((Lx.Chg2.refl B T w).drew _) rfl
 have hem : r.toList.isEmpty = false := by
  rw [ByteArray.toList_eq, List.isEmpty_eq_false_iff]; intro h; have := Fx.size_toList r; rw [h] at this; simp at this; omega
 have hp : 0 < r.size := by omega
 have hp' : 0 < (r.size : Int) := by omega
 go_enter Try.func65, Try.ntmps65
 go_wp2_with fail
 go_quiet (fail)
 go_wp2_with fail
 go_loopw [6] (fun v wr => ∃ n : Nat, v = .int .i64 n ∧ n ≤ r.size ∧ Hid (Lx.Inv r n) ∧ ∃ q, wr = w.drewN q) (fun v _ => r.size - (intOf v).toNat)
 case atStart => exact ⟨0, rfl, by omega, (fun j hj => absurd hj (by omega)), _, rfl⟩
 case round =>
  obtain ⟨n, rfl, hn, HI, q, rfl⟩ := hrel
  by_cases hlt : n < r.size
  case neg =>
   have hge : (r.size : Int) ≤ (n : Int) := by omega
   have hz : n ≠ 0 := by omega
   have hzi : ((n : Int) == 0) = false := by rw [beq_eq_false_iff_ne]; omega
   have hout : (h : n < r.size) → Lx.cont r[n] n = false := fun h => absurd h hlt
   have hnl : Lx.nameLen r.data.toList = n := by rw [Lx.nameLen_eq r n (by omega) hp HI.out hout]; rw [if_neg hz]
   obtain ⟨x, hx⟩ : ∃ x, r.extract 0 n = x := ⟨_, rfl⟩
   have hxl : x.data.toList = r.data.toList.take n := by rw [← hx, Lib.extract_data]; simp
   have hxs : x.size ≤ 1000000 := by
    have := congrArg List.length hxl
    rw [Fx.size_toList, List.length_take, Fx.size_toList] at this
    omega
   have hnm := fun w => names_any x w hxs
   obtain ⟨v, hv⟩ : ∃ v, Lx.names x.data.toList = v := ⟨_, rfl⟩
   rw [hv] at hnm
   have HR : Hid (Lx.char (Lx.tl s at0) = if v < 0 || Lx.white r[0] then .err 30 else .tok ⟨11, v, []⟩ (Lx.tl s (at0 + 2 + n))) := by
    show _ = _
    rw [HC.out, if_neg (by intro h; have := Fx.size_toList r; rw [h] at this; simp at this; omega), hnl, ← hxl, hv, hrl, Lx.tl_drop, ← hrl]
    rw [show Lx.pk r.data.toList 0 = r[0] by rw [Lx.d_cons r hp]; rfl]
   clear hnl hxl hv hxs HC hout HI
   by_cases hv0 : v < 0
   ·have HR2 : Hid (Lx.char (Lx.tl s at0) = .err 30) := HR.out.trans (if_pos (by simp [hv0]))
    go_wp2_with fail
    refine (hnm _).mono ?_; rintro e w1 ⟨rfl, k1, hk⟩
    have hb1 : Below w.heap.size w w1 := by rw [hk]; exact ⟨rfl, rfl, rfl, Nat.le_refl _, fun _ _ => rfl⟩
    clear hk
    have hsc1 := hsc.below hb1
    have htk1 := htk.below hb1
    have hch1 := (Lx.Chg2.refl B T w).of_below hb1
    have d0 := htk1.c0
    have d3 := (htk1.set0 11).c3
    have d3' := ((htk1.set0 11).set3 v).c3
    have e1 := ((hsc1.other T 0 (.int .i64 11) hBT).other T 3 (.int .i64 v) hBT).c1
    have z0 := htk1.fz
    have z1 := (htk1.set0 11).fz
    have z2 := ((hsc1.other T 0 (.int .i64 11) hBT).other T 3 (.int .i64 v) hBT).fz
    have HTK1 := Lib.hid htk1
    have HSC1 := Lib.hid hsc1
    have HCH1 := Lib.hid hch1
    clear htk1 hsc1 hch1 hb1
    go_wp2
    go_ret
    exact .err at0 11 v _ 30 _ HR2.out (by omega) ((HSC1.out.other T 0 _ hBT).other T 3 _ hBT) ((HTK1.out.set0 11).set3 v) ((HCH1.out.setT 0 _).setT 3 _) rfl
   have hv1 : 0 ≤ v := by omega
   cases hwh : Lx.white r[0]
   ·have HR2 : Hid (Lx.char (Lx.tl s at0) = .tok ⟨11, v, []⟩ (Lx.tl s (at0 + 2 + n))) := HR.out.trans (if_neg (by simp [hv0, hwh]))
    go_wp2_with fail
    refine (hnm _).mono ?_; rintro e w1 ⟨rfl, k1, hk⟩
    have hb1 : Below w.heap.size w w1 := by rw [hk]; exact ⟨rfl, rfl, rfl, Nat.le_refl _, fun _ _ => rfl⟩
    clear hk
    have hsc1 := hsc.below hb1
    have htk1 := htk.below hb1
    have hch1 := (Lx.Chg2.refl B T w).of_below hb1
    have d0 := htk1.c0
    have d3 := (htk1.set0 11).c3
    have d3' := ((htk1.set0 11).set3 v).c3
    have e1 := ((hsc1.other T 0 (.int .i64 11) hBT).other T 3 (.int .i64 v) hBT).c1
    have z0 := htk1.fz
    have z1 := (htk1.set0 11).fz
    have z2 := ((hsc1.other T 0 (.int .i64 11) hBT).other T 3 (.int .i64 v) hBT).fz
    have HTK1 := Lib.hid htk1
    have HSC1 := Lib.hid hsc1
    have HCH1 := Lib.hid hch1
    clear htk1 hsc1 hch1 hb1
    go_wp2_with fail
    refine (white_any _ _).mono ?_; rintro e w2 ⟨rfl, rfl⟩
    rw [hwh]
    go_wp2
    go_ret
    exact .tok (at0 + 2 + n) 11 v [] _ _ HR2.out (by omega) (((HSC1.out.other T 0 _ hBT).other T 3 _ hBT).step' _ _ (by omega)) (((HTK1.out.set0 11).set3 v).other B 1 _ (Ne.symm hBT)) (((HCH1.out.setT 0 _).setT 3 _).setB 1 _) rfl rfl
   ·have HR2 : Hid (Lx.char (Lx.tl s at0) = .err 30) := HR.out.trans (if_pos (by simp [hwh]))
    go_wp2_with fail
    refine (hnm _).mono ?_; rintro e w1 ⟨rfl, k1, hk⟩
    have hb1 : Below w.heap.size w w1 := by rw [hk]; exact ⟨rfl, rfl, rfl, Nat.le_refl _, fun _ _ => rfl⟩
    clear hk
    have hsc1 := hsc.below hb1
    have htk1 := htk.below hb1
    have hch1 := (Lx.Chg2.refl B T w).of_below hb1
    have d0 := htk1.c0
    have d3 := (htk1.set0 11).c3
    have d3' := ((htk1.set0 11).set3 v).c3
    have e1 := ((hsc1.other T 0 (.int .i64 11) hBT).other T 3 (.int .i64 v) hBT).c1
    have z0 := htk1.fz
    have z1 := (htk1.set0 11).fz
    have z2 := ((hsc1.other T 0 (.int .i64 11) hBT).other T 3 (.int .i64 v) hBT).fz
    have HTK1 := Lib.hid htk1
    have HSC1 := Lib.hid hsc1
    have HCH1 := Lib.hid hch1
    clear htk1 hsc1 hch1 hb1
    go_wp2_with fail
    refine (white_any _ _).mono ?_; rintro e w2 ⟨rfl, rfl⟩
    rw [hwh]
    go_wp2
    go_ret
    exact .err at0 11 v _ 30 _ HR2.out (by omega) ((HSC1.out.other T 0 _ hBT).other T 3 _ hBT) ((HTK1.out.set0 11).set3 v) ((HCH1.out.setT 0 _).setT 3 _) rfl
  have hlt' : (n : Int) < (r.size : Int) := by omega
  by_cases l1 : 97 ≤ (r[n].toNat : Int)
  ·by_cases l2 : (r[n].toNat : Int) ≤ 122
   ·have l1n : 97 ≤ r[n].toNat := by omega
    have l2n : r[n].toNat ≤ 122 := by omega
    have HI2 : Hid (Lx.Inv r (n + 1)) := HI.out.next hlt (by rw [Lx.cont_int]; simp; omega)
    go_wp2
    go_roundw
    case rel => exact ⟨n + 1, by simp, by omega, HI2, q, rfl⟩
    case measure => simp [intOf]; omega
   ·have l3 : 48 ≤ (r[n].toNat : Int) := by omega
    have l4 : ¬ (r[n].toNat : Int) ≤ 57 := by omega
    have l1n : 97 ≤ r[n].toNat := by omega
    have l2n : ¬ r[n].toNat ≤ 122 := by omega
    have l3n : 48 ≤ r[n].toNat := by omega
    have l4n : ¬ r[n].toNat ≤ 57 := by omega
    by_cases hz : n = 0
    ·skip
     subst hz
     have hout : (h : 0 < r.size) → Lx.cont r[0] 0 = false := fun _ => by rw [Lx.cont_int]; simp; omega
     have hnl : Lx.nameLen r.data.toList = 1 := by rw [Lx.nameLen_eq r 0 (by omega) hp HI.out hout]; rfl
     obtain ⟨x, hx⟩ : ∃ x, r.extract 0 1 = x := ⟨_, rfl⟩
     have hxl : x.data.toList = r.data.toList.take 1 := by rw [← hx, Lib.extract_data]; simp
     have hxs : x.size ≤ 1000000 := by
      have := congrArg List.length hxl
      rw [Fx.size_toList, List.length_take, Fx.size_toList] at this
      omega
     have hnm := fun w => names_any x w hxs
     obtain ⟨v, hv⟩ : ∃ v, Lx.names x.data.toList = v := ⟨_, rfl⟩
     rw [hv] at hnm
     have HR : Hid (Lx.char (Lx.tl s at0) = if v < 0 || Lx.white r[0] then .err 30 else .tok ⟨11, v, []⟩ (Lx.tl s (at0 + 2 + 1))) := by
      show _ = _
      rw [HC.out, if_neg (by intro h; have := Fx.size_toList r; rw [h] at this; simp at this; omega), hnl, ← hxl, hv, hrl, Lx.tl_drop, ← hrl]
      rw [show Lx.pk r.data.toList 0 = r[0] by rw [Lx.d_cons r hp]; rfl]
     clear hnl hxl hv hxs HC hout HI
     by_cases hv0 : v < 0
     ·have HR2 : Hid (Lx.char (Lx.tl s at0) = .err 30) := HR.out.trans (if_pos (by simp [hv0]))
      go_wp2_with fail
      refine (hnm _).mono ?_; rintro e w1 ⟨rfl, k1, hk⟩
      have hb1 : Below w.heap.size w w1 := by rw [hk]; exact ⟨rfl, rfl, rfl, Nat.le_refl _, fun _ _ => rfl⟩
      clear hk
      have hsc1 := hsc.below hb1
      have htk1 := htk.below hb1
      have hch1 := (Lx.Chg2.refl B T w).of_below hb1
      have d0 := htk1.c0
      have d3 := (htk1.set0 11).c3
      have d3' := ((htk1.set0 11).set3 v).c3
      have e1 := ((hsc1.other T 0 (.int .i64 11) hBT).other T 3 (.int .i64 v) hBT).c1
      have z0 := htk1.fz
      have z1 := (htk1.set0 11).fz
      have z2 := ((hsc1.other T 0 (.int .i64 11) hBT).other T 3 (.int .i64 v) hBT).fz
      have HTK1 := Lib.hid htk1
      have HSC1 := Lib.hid hsc1
      have HCH1 := Lib.hid hch1
      clear htk1 hsc1 hch1 hb1
      go_wp2
      go_ret
      exact .err at0 11 v _ 30 _ HR2.out (by omega) ((HSC1.out.other T 0 _ hBT).other T 3 _ hBT) ((HTK1.out.set0 11).set3 v) ((HCH1.out.setT 0 _).setT 3 _) rfl
     have hv1 : 0 ≤ v := by omega
     cases hwh : Lx.white r[0]
     ·have HR2 : Hid (Lx.char (Lx.tl s at0) = .tok ⟨11, v, []⟩ (Lx.tl s (at0 + 2 + 1))) := HR.out.trans (if_neg (by simp [hv0, hwh]))
      go_wp2_with fail
      refine (hnm _).mono ?_; rintro e w1 ⟨rfl, k1, hk⟩
      have hb1 : Below w.heap.size w w1 := by rw [hk]; exact ⟨rfl, rfl, rfl, Nat.le_refl _, fun _ _ => rfl⟩
      clear hk
      have hsc1 := hsc.below hb1
      have htk1 := htk.below hb1
      have hch1 := (Lx.Chg2.refl B T w).of_below hb1
      have d0 := htk1.c0
      have d3 := (htk1.set0 11).c3
      have d3' := ((htk1.set0 11).set3 v).c3
      have e1 := ((hsc1.other T 0 (.int .i64 11) hBT).other T 3 (.int .i64 v) hBT).c1
      have z0 := htk1.fz
      have z1 := (htk1.set0 11).fz
      have z2 := ((hsc1.other T 0 (.int .i64 11) hBT).other T 3 (.int .i64 v) hBT).fz
      have HTK1 := Lib.hid htk1
      have HSC1 := Lib.hid hsc1
      have HCH1 := Lib.hid hch1
      clear htk1 hsc1 hch1 hb1
      go_wp2_with fail
      refine (white_any _ _).mono ?_; rintro e w2 ⟨rfl, rfl⟩
      rw [hwh]
      go_wp2
      go_ret
      exact .tok (at0 + 2 + 1) 11 v [] _ _ HR2.out (by omega) (((HSC1.out.other T 0 _ hBT).other T 3 _ hBT).step' _ _ (by omega)) (((HTK1.out.set0 11).set3 v).other B 1 _ (Ne.symm hBT)) (((HCH1.out.setT 0 _).setT 3 _).setB 1 _) rfl rfl
     ·have HR2 : Hid (Lx.char (Lx.tl s at0) = .err 30) := HR.out.trans (if_pos (by simp [hwh]))
      go_wp2_with fail
      refine (hnm _).mono ?_; rintro e w1 ⟨rfl, k1, hk⟩
      have hb1 : Below w.heap.size w w1 := by rw [hk]; exact ⟨rfl, rfl, rfl, Nat.le_refl _, fun _ _ => rfl⟩
      clear hk
      have hsc1 := hsc.below hb1
      have htk1 := htk.below hb1
      have hch1 := (Lx.Chg2.refl B T w).of_below hb1
      have d0 := htk1.c0
      have d3 := (htk1.set0 11).c3
      have d3' := ((htk1.set0 11).set3 v).c3
      have e1 := ((hsc1.other T 0 (.int .i64 11) hBT).other T 3 (.int .i64 v) hBT).c1
      have z0 := htk1.fz
      have z1 := (htk1.set0 11).fz
      have z2 := ((hsc1.other T 0 (.int .i64 11) hBT).other T 3 (.int .i64 v) hBT).fz
      have HTK1 := Lib.hid htk1
      have HSC1 := Lib.hid hsc1
      have HCH1 := Lib.hid hch1
      clear htk1 hsc1 hch1 hb1
      go_wp2_with fail
      refine (white_any _ _).mono ?_; rintro e w2 ⟨rfl, rfl⟩
      rw [hwh]
      go_wp2
      go_ret
      exact .err at0 11 v _ 30 _ HR2.out (by omega) ((HSC1.out.other T 0 _ hBT).other T 3 _ hBT) ((HTK1.out.set0 11).set3 v) ((HCH1.out.setT 0 _).setT 3 _) rfl
    ·have hn0 : 0 < n := by omega
     have hz : n ≠ 0 := by omega
     have hzi : ((n : Int) == 0) = false := by rw [beq_eq_false_iff_ne]; omega
     have hout : (h : n < r.size) → Lx.cont r[n] n = false := fun _ => by rw [Lx.cont_int]; simp; omega
     have hnl : Lx.nameLen r.data.toList = n := by rw [Lx.nameLen_eq r n (by omega) hp HI.out hout]; rw [if_neg hz]
     obtain ⟨x, hx⟩ : ∃ x, r.extract 0 n = x := ⟨_, rfl⟩
     have hxl : x.data.toList = r.data.toList.take n := by rw [← hx, Lib.extract_data]; simp
     have hxs : x.size ≤ 1000000 := by
      have := congrArg List.length hxl
      rw [Fx.size_toList, List.length_take, Fx.size_toList] at this
      omega
     have hnm := fun w => names_any x w hxs
     obtain ⟨v, hv⟩ : ∃ v, Lx.names x.data.toList = v := ⟨_, rfl⟩
     rw [hv] at hnm
     have HR : Hid (Lx.char (Lx.tl s at0) = if v < 0 || Lx.white r[0] then .err 30 else .tok ⟨11, v, []⟩ (Lx.tl s (at0 + 2 + n))) := by
      show _ = _
      rw [HC.out, if_neg (by intro h; have := Fx.size_toList r; rw [h] at this; simp at this; omega), hnl, ← hxl, hv, hrl, Lx.tl_drop, ← hrl]
      rw [show Lx.pk r.data.toList 0 = r[0] by rw [Lx.d_cons r hp]; rfl]
     clear hnl hxl hv hxs HC hout HI
     by_cases hv0 : v < 0
     ·have HR2 : Hid (Lx.char (Lx.tl s at0) = .err 30) := HR.out.trans (if_pos (by simp [hv0]))
      go_wp2_with fail
      refine (hnm _).mono ?_; rintro e w1 ⟨rfl, k1, hk⟩
      have hb1 : Below w.heap.size w w1 := by rw [hk]; exact ⟨rfl, rfl, rfl, Nat.le_refl _, fun _ _ => rfl⟩
      clear hk
      have hsc1 := hsc.below hb1
      have htk1 := htk.below hb1
      have hch1 := (Lx.Chg2.refl B T w).of_below hb1
      have d0 := htk1.c0
      have d3 := (htk1.set0 11).c3
      have d3' := ((htk1.set0 11).set3 v).c3
      have e1 := ((hsc1.other T 0 (.int .i64 11) hBT).other T 3 (.int .i64 v) hBT).c1
      have z0 := htk1.fz
      have z1 := (htk1.set0 11).fz
      have z2 := ((hsc1.other T 0 (.int .i64 11) hBT).other T 3 (.int .i64 v) hBT).fz
      have HTK1 := Lib.hid htk1
      have HSC1 := Lib.hid hsc1
      have HCH1 := Lib.hid hch1
      clear htk1 hsc1 hch1 hb1
      go_wp2
      go_ret
      exact .err at0 11 v _ 30 _ HR2.out (by omega) ((HSC1.out.other T 0 _ hBT).other T 3 _ hBT) ((HTK1.out.set0 11).set3 v) ((HCH1.out.setT 0 _).setT 3 _) rfl
     have hv1 : 0 ≤ v := by omega
     cases hwh : Lx.white r[0]
     ·have HR2 : Hid (Lx.char (Lx.tl s at0) = .tok ⟨11, v, []⟩ (Lx.tl s (at0 + 2 + n))) := HR.out.trans (if_neg (by simp [hv0, hwh]))
      go_wp2_with fail
      refine (hnm _).mono ?_; rintro e w1 ⟨rfl, k1, hk⟩
      have hb1 : Below w.heap.size w w1 := by rw [hk]; exact ⟨rfl, rfl, rfl, Nat.le_refl _, fun _ _ => rfl⟩
      clear hk
      have hsc1 := hsc.below hb1
      have htk1 := htk.below hb1
      have hch1 := (Lx.Chg2.refl B T w).of_below hb1
      have d0 := htk1.c0
      have d3 := (htk1.set0 11).c3
      have d3' := ((htk1.set0 11).set3 v).c3
      have e1 := ((hsc1.other T 0 (.int .i64 11) hBT).other T 3 (.int .i64 v) hBT).c1
      have z0 := htk1.fz
      have z1 := (htk1.set0 11).fz
      have z2 := ((hsc1.other T 0 (.int .i64 11) hBT).other T 3 (.int .i64 v) hBT).fz
      have HTK1 := Lib.hid htk1
      have HSC1 := Lib.hid hsc1
      have HCH1 := Lib.hid hch1
      clear htk1 hsc1 hch1 hb1
      go_wp2_with fail
      refine (white_any _ _).mono ?_; rintro e w2 ⟨rfl, rfl⟩
      rw [hwh]
      go_wp2
      go_ret
      exact .tok (at0 + 2 + n) 11 v [] _ _ HR2.out (by omega) (((HSC1.out.other T 0 _ hBT).other T 3 _ hBT).step' _ _ (by omega)) (((HTK1.out.set0 11).set3 v).other B 1 _ (Ne.symm hBT)) (((HCH1.out.setT 0 _).setT 3 _).setB 1 _) rfl rfl
     ·have HR2 : Hid (Lx.char (Lx.tl s at0) = .err 30) := HR.out.trans (if_pos (by simp [hwh]))
      go_wp2_with fail
      refine (hnm _).mono ?_; rintro e w1 ⟨rfl, k1, hk⟩
      have hb1 : Below w.heap.size w w1 := by rw [hk]; exact ⟨rfl, rfl, rfl, Nat.le_refl _, fun _ _ => rfl⟩
      clear hk
      have hsc1 := hsc.below hb1
      have htk1 := htk.below hb1
      have hch1 := (Lx.Chg2.refl B T w).of_below hb1
      have d0 := htk1.c0
      have d3 := (htk1.set0 11).c3
      have d3' := ((htk1.set0 11).set3 v).c3
      have e1 := ((hsc1.other T 0 (.int .i64 11) hBT).other T 3 (.int .i64 v) hBT).c1
      have z0 := htk1.fz
      have z1 := (htk1.set0 11).fz
      have z2 := ((hsc1.other T 0 (.int .i64 11) hBT).other T 3 (.int .i64 v) hBT).fz
      have HTK1 := Lib.hid htk1
      have HSC1 := Lib.hid hsc1
      have HCH1 := Lib.hid hch1
      clear htk1 hsc1 hch1 hb1
      go_wp2_with fail
      refine (white_any _ _).mono ?_; rintro e w2 ⟨rfl, rfl⟩
      rw [hwh]
      go_wp2
      go_ret
      exact .err at0 11 v _ 30 _ HR2.out (by omega) ((HSC1.out.other T 0 _ hBT).other T 3 _ hBT) ((HTK1.out.set0 11).set3 v) ((HCH1.out.setT 0 _).setT 3 _) rfl
  ·have l1n : ¬ 97 ≤ r[n].toNat := by omega
   by_cases hz : n = 0
   ·skip
    subst hz
    have hout : (h : 0 < r.size) → Lx.cont r[0] 0 = false := fun _ => by rw [Lx.cont_int]; simp; omega
    have hnl : Lx.nameLen r.data.toList = 1 := by rw [Lx.nameLen_eq r 0 (by omega) hp HI.out hout]; rfl
    obtain ⟨x, hx⟩ : ∃ x, r.extract 0 1 = x := ⟨_, rfl⟩
    have hxl : x.data.toList = r.data.toList.take 1 := by rw [← hx, Lib.extract_data]; simp
    have hxs : x.size ≤ 1000000 := by
     have := congrArg List.length hxl
     rw [Fx.size_toList, List.length_take, Fx.size_toList] at this
     omega
    have hnm := fun w => names_any x w hxs
    obtain ⟨v, hv⟩ : ∃ v, Lx.names x.data.toList = v := ⟨_, rfl⟩
    rw [hv] at hnm
    have HR : Hid (Lx.char (Lx.tl s at0) = if v < 0 || Lx.white r[0] then .err 30 else .tok ⟨11, v, []⟩ (Lx.tl s (at0 + 2 + 1))) := by
     show _ = _
     rw [HC.out, if_neg (by intro h; have := Fx.size_toList r; rw [h] at this; simp at this; omega), hnl, ← hxl, hv, hrl, Lx.tl_drop, ← hrl]
     rw [show Lx.pk r.data.toList 0 = r[0] by rw [Lx.d_cons r hp]; rfl]
    clear hnl hxl hv hxs HC hout HI
    by_cases hv0 : v < 0
    ·have HR2 : Hid (Lx.char (Lx.tl s at0) = .err 30) := HR.out.trans (if_pos (by simp [hv0]))
     go_wp2_with fail
     refine (hnm _).mono ?_; rintro e w1 ⟨rfl, k1, hk⟩
     have hb1 : Below w.heap.size w w1 := by rw [hk]; exact ⟨rfl, rfl, rfl, Nat.le_refl _, fun _ _ => rfl⟩
     clear hk
     have hsc1 := hsc.below hb1
     have htk1 := htk.below hb1
     have hch1 := (Lx.Chg2.refl B T w).of_below hb1
     have d0 := htk1.c0
     have d3 := (htk1.set0 11).c3
     have d3' := ((htk1.set0 11).set3 v).c3
     have e1 := ((hsc1.other T 0 (.int .i64 11) hBT).other T 3 (.int .i64 v) hBT).c1
     have z0 := htk1.fz
     have z1 := (htk1.set0 11).fz
     have z2 := ((hsc1.other T 0 (.int .i64 11) hBT).other T 3 (.int .i64 v) hBT).fz
     have HTK1 := Lib.hid htk1
     have HSC1 := Lib.hid hsc1
     have HCH1 := Lib.hid hch1
     clear htk1 hsc1 hch1 hb1
     go_wp2
     go_ret
     exact .err at0 11 v _ 30 _ HR2.out (by omega) ((HSC1.out.other T 0 _ hBT).other T 3 _ hBT) ((HTK1.out.set0 11).set3 v) ((HCH1.out.setT 0 _).setT 3 _) rfl
    have hv1 : 0 ≤ v := by omega
    cases hwh : Lx.white r[0]
    ·have HR2 : Hid (Lx.char (Lx.tl s at0) = .tok ⟨11, v, []⟩ (Lx.tl s (at0 + 2 + 1))) := HR.out.trans (if_neg (by simp [hv0, hwh]))
     go_wp2_with fail
     refine (hnm _).mono ?_; rintro e w1 ⟨rfl, k1, hk⟩
     have hb1 : Below w.heap.size w w1 := by rw [hk]; exact ⟨rfl, rfl, rfl, Nat.le_refl _, fun _ _ => rfl⟩
     clear hk
     have hsc1 := hsc.below hb1
     have htk1 := htk.below hb1
     have hch1 := (Lx.Chg2.refl B T w).of_below hb1
     have d0 := htk1.c0
     have d3 := (htk1.set0 11).c3
     have d3' := ((htk1.set0 11).set3 v).c3
     have e1 := ((hsc1.other T 0 (.int .i64 11) hBT).other T 3 (.int .i64 v) hBT).c1
     have z0 := htk1.fz
     have z1 := (htk1.set0 11).fz
     have z2 := ((hsc1.other T 0 (.int .i64 11) hBT).other T 3 (.int .i64 v) hBT).fz
     have HTK1 := Lib.hid htk1
     have HSC1 := Lib.hid hsc1
     have HCH1 := Lib.hid hch1
     clear htk1 hsc1 hch1 hb1
     go_wp2_with fail
     refine (white_any _ _).mono ?_; rintro e w2 ⟨rfl, rfl⟩
     rw [hwh]
     go_wp2
     go_ret
     exact .tok (at0 + 2 + 1) 11 v [] _ _ HR2.out (by omega) (((HSC1.out.other T 0 _ hBT).other T 3 _ hBT).step' _ _ (by omega)) (((HTK1.out.set0 11).set3 v).other B 1 _ (Ne.symm hBT)) (((HCH1.out.setT 0 _).setT 3 _).setB 1 _) rfl rfl
    ·have HR2 : Hid (Lx.char (Lx.tl s at0) = .err 30) := HR.out.trans (if_pos (by simp [hwh]))
     go_wp2_with fail
     refine (hnm _).mono ?_; rintro e w1 ⟨rfl, k1, hk⟩
     have hb1 : Below w.heap.size w w1 := by rw [hk]; exact ⟨rfl, rfl, rfl, Nat.le_refl _, fun _ _ => rfl⟩
     clear hk
     have hsc1 := hsc.below hb1
     have htk1 := htk.below hb1
     have hch1 := (Lx.Chg2.refl B T w).of_below hb1
     have d0 := htk1.c0
     have d3 := (htk1.set0 11).c3
     have d3' := ((htk1.set0 11).set3 v).c3
     have e1 := ((hsc1.other T 0 (.int .i64 11) hBT).other T 3 (.int .i64 v) hBT).c1
     have z0 := htk1.fz
     have z1 := (htk1.set0 11).fz
     have z2 := ((hsc1.other T 0 (.int .i64 11) hBT).other T 3 (.int .i64 v) hBT).fz
     have HTK1 := Lib.hid htk1
     have HSC1 := Lib.hid hsc1
     have HCH1 := Lib.hid hch1
     clear htk1 hsc1 hch1 hb1
     go_wp2_with fail
     refine (white_any _ _).mono ?_; rintro e w2 ⟨rfl, rfl⟩
     rw [hwh]
     go_wp2
     go_ret
     exact .err at0 11 v _ 30 _ HR2.out (by omega) ((HSC1.out.other T 0 _ hBT).other T 3 _ hBT) ((HTK1.out.set0 11).set3 v) ((HCH1.out.setT 0 _).setT 3 _) rfl
   ·have hn0 : 0 < n := by omega
    by_cases l3 : 48 ≤ (r[n].toNat : Int)
    ·have l3n : 48 ≤ r[n].toNat := by omega
     by_cases l4 : (r[n].toNat : Int) ≤ 57
     ·have l4n : r[n].toNat ≤ 57 := by omega
      have HI2 : Hid (Lx.Inv r (n + 1)) := HI.out.next hlt (by rw [Lx.cont_int]; simp; omega)
      go_wp2
      go_roundw
      case rel => exact ⟨n + 1, by simp, by omega, HI2, q, rfl⟩
      case measure => simp [intOf]; omega
     ·have l4n : ¬ r[n].toNat ≤ 57 := by omega
      have hz : n ≠ 0 := by omega
      have hzi : ((n : Int) == 0) = false := by rw [beq_eq_false_iff_ne]; omega
      have hout : (h : n < r.size) → Lx.cont r[n] n = false := fun _ => by rw [Lx.cont_int]; simp; omega
      have hnl : Lx.nameLen r.data.toList = n := by rw [Lx.nameLen_eq r n (by omega) hp HI.out hout]; rw [if_neg hz]
      obtain ⟨x, hx⟩ : ∃ x, r.extract 0 n = x := ⟨_, rfl⟩
      have hxl : x.data.toList = r.data.toList.take n := by rw [← hx, Lib.extract_data]; simp
      have hxs : x.size ≤ 1000000 := by
       have := congrArg List.length hxl
       rw [Fx.size_toList, List.length_take, Fx.size_toList] at this
       omega
      have hnm := fun w => names_any x w hxs
      obtain ⟨v, hv⟩ : ∃ v, Lx.names x.data.toList = v := ⟨_, rfl⟩
      rw [hv] at hnm
      have HR : Hid (Lx.char (Lx.tl s at0) = if v < 0 || Lx.white r[0] then .err 30 else .tok ⟨11, v, []⟩ (Lx.tl s (at0 + 2 + n))) := by
       show _ = _
       rw [HC.out, if_neg (by intro h; have := Fx.size_toList r; rw [h] at this; simp at this; omega), hnl, ← hxl, hv, hrl, Lx.tl_drop, ← hrl]
       rw [show Lx.pk r.data.toList 0 = r[0] by rw [Lx.d_cons r hp]; rfl]
      clear hnl hxl hv hxs HC hout HI
      by_cases hv0 : v < 0
      ·have HR2 : Hid (Lx.char (Lx.tl s at0) = .err 30) := HR.out.trans (if_pos (by simp [hv0]))
       go_wp2_with fail
       refine (hnm _).mono ?_; rintro e w1 ⟨rfl, k1, hk⟩
       have hb1 : Below w.heap.size w w1 := by rw [hk]; exact ⟨rfl, rfl, rfl, Nat.le_refl _, fun _ _ => rfl⟩
       clear hk
       have hsc1 := hsc.below hb1
       have htk1 := htk.below hb1
       have hch1 := (Lx.Chg2.refl B T w).of_below hb1
       have d0 := htk1.c0
       have d3 := (htk1.set0 11).c3
       have d3' := ((htk1.set0 11).set3 v).c3
       have e1 := ((hsc1.other T 0 (.int .i64 11) hBT).other T 3 (.int .i64 v) hBT).c1
       have z0 := htk1.fz
       have z1 := (htk1.set0 11).fz
       have z2 := ((hsc1.other T 0 (.int .i64 11) hBT).other T 3 (.int .i64 v) hBT).fz
       have HTK1 := Lib.hid htk1
       have HSC1 := Lib.hid hsc1
       have HCH1 := Lib.hid hch1
       clear htk1 hsc1 hch1 hb1
       go_wp2
       go_ret
       exact .err at0 11 v _ 30 _ HR2.out (by omega) ((HSC1.out.other T 0 _ hBT).other T 3 _ hBT) ((HTK1.out.set0 11).set3 v) ((HCH1.out.setT 0 _).setT 3 _) rfl
      have hv1 : 0 ≤ v := by omega
      cases hwh : Lx.white r[0]
      ·have HR2 : Hid (Lx.char (Lx.tl s at0) = .tok ⟨11, v, []⟩ (Lx.tl s (at0 + 2 + n))) := HR.out.trans (if_neg (by simp [hv0, hwh]))
       go_wp2_with fail
       refine (hnm _).mono ?_; rintro e w1 ⟨rfl, k1, hk⟩
       have hb1 : Below w.heap.size w w1 := by rw [hk]; exact ⟨rfl, rfl, rfl, Nat.le_refl _, fun _ _ => rfl⟩
       clear hk
       have hsc1 := hsc.below hb1
       have htk1 := htk.below hb1
       have hch1 := (Lx.Chg2.refl B T w).of_below hb1
       have d0 := htk1.c0
       have d3 := (htk1.set0 11).c3
       have d3' := ((htk1.set0 11).set3 v).c3
       have e1 := ((hsc1.other T 0 (.int .i64 11) hBT).other T 3 (.int .i64 v) hBT).c1
       have z0 := htk1.fz
       have z1 := (htk1.set0 11).fz
       have z2 := ((hsc1.other T 0 (.int .i64 11) hBT).other T 3 (.int .i64 v) hBT).fz
       have HTK1 := Lib.hid htk1
       have HSC1 := Lib.hid hsc1
       have HCH1 := Lib.hid hch1
       clear htk1 hsc1 hch1 hb1
       go_wp2_with fail
       refine (white_any _ _).mono ?_; rintro e w2 ⟨rfl, rfl⟩
       rw [hwh]
       go_wp2
       go_ret
       exact .tok (at0 + 2 + n) 11 v [] _ _ HR2.out (by omega) (((HSC1.out.other T 0 _ hBT).other T 3 _ hBT).step' _ _ (by omega)) (((HTK1.out.set0 11).set3 v).other B 1 _ (Ne.symm hBT)) (((HCH1.out.setT 0 _).setT 3 _).setB 1 _) rfl rfl
      ·have HR2 : Hid (Lx.char (Lx.tl s at0) = .err 30) := HR.out.trans (if_pos (by simp [hwh]))
       go_wp2_with fail
       refine (hnm _).mono ?_; rintro e w1 ⟨rfl, k1, hk⟩
       have hb1 : Below w.heap.size w w1 := by rw [hk]; exact ⟨rfl, rfl, rfl, Nat.le_refl _, fun _ _ => rfl⟩
       clear hk
       have hsc1 := hsc.below hb1
       have htk1 := htk.below hb1
       have hch1 := (Lx.Chg2.refl B T w).of_below hb1
       have d0 := htk1.c0
       have d3 := (htk1.set0 11).c3
       have d3' := ((htk1.set0 11).set3 v).c3
       have e1 := ((hsc1.other T 0 (.int .i64 11) hBT).other T 3 (.int .i64 v) hBT).c1
       have z0 := htk1.fz
       have z1 := (htk1.set0 11).fz
       have z2 := ((hsc1.other T 0 (.int .i64 11) hBT).other T 3 (.int .i64 v) hBT).fz
       have HTK1 := Lib.hid htk1
       have HSC1 := Lib.hid hsc1
       have HCH1 := Lib.hid hch1
       clear htk1 hsc1 hch1 hb1
       go_wp2_with fail
       refine (white_any _ _).mono ?_; rintro e w2 ⟨rfl, rfl⟩
       rw [hwh]
       go_wp2
       go_ret
       exact .err at0 11 v _ 30 _ HR2.out (by omega) ((HSC1.out.other T 0 _ hBT).other T 3 _ hBT) ((HTK1.out.set0 11).set3 v) ((HCH1.out.setT 0 _).setT 3 _) rfl
    ·have l3n : ¬ 48 ≤ r[n].toNat := by omega
     have hz : n ≠ 0 := by omega
     have hzi : ((n : Int) == 0) = false := by rw [beq_eq_false_iff_ne]; omega
     have hout : (h : n < r.size) → Lx.cont r[n] n = false := fun _ => by rw [Lx.cont_int]; simp; omega
     have hnl : Lx.nameLen r.data.toList = n := by rw [Lx.nameLen_eq r n (by omega) hp HI.out hout]; rw [if_neg hz]
     obtain ⟨x, hx⟩ : ∃ x, r.extract 0 n = x := ⟨_, rfl⟩
     have hxl : x.data.toList = r.data.toList.take n := by rw [← hx, Lib.extract_data]; simp
     have hxs : x.size ≤ 1000000 := by
      have := congrArg List.length hxl
      rw [Fx.size_toList, List.length_take, Fx.size_toList] at this
      omega
     have hnm := fun w => names_any x w hxs
     obtain ⟨v, hv⟩ : ∃ v, Lx.names x.data.toList = v := ⟨_, rfl⟩
     rw [hv] at hnm
     have HR : Hid (Lx.char (Lx.tl s at0) = if v < 0 || Lx.white r[0] then .err 30 else .tok ⟨11, v, []⟩ (Lx.tl s (at0 + 2 + n))) := by
      show _ = _
      rw [HC.out, if_neg (by intro h; have := Fx.size_toList r; rw [h] at this; simp at this; omega), hnl, ← hxl, hv, hrl, Lx.tl_drop, ← hrl]
      rw [show Lx.pk r.data.toList 0 = r[0] by rw [Lx.d_cons r hp]; rfl]
     clear hnl hxl hv hxs HC hout HI
     by_cases hv0 : v < 0
     ·have HR2 : Hid (Lx.char (Lx.tl s at0) = .err 30) := HR.out.trans (if_pos (by simp [hv0]))
      go_wp2_with fail
      refine (hnm _).mono ?_; rintro e w1 ⟨rfl, k1, hk⟩
      have hb1 : Below w.heap.size w w1 := by rw [hk]; exact ⟨rfl, rfl, rfl, Nat.le_refl _, fun _ _ => rfl⟩
      clear hk
      have hsc1 := hsc.below hb1
      have htk1 := htk.below hb1
      have hch1 := (Lx.Chg2.refl B T w).of_below hb1
      have d0 := htk1.c0
      have d3 := (htk1.set0 11).c3
      have d3' := ((htk1.set0 11).set3 v).c3
      have e1 := ((hsc1.other T 0 (.int .i64 11) hBT).other T 3 (.int .i64 v) hBT).c1
      have z0 := htk1.fz
      have z1 := (htk1.set0 11).fz
      have z2 := ((hsc1.other T 0 (.int .i64 11) hBT).other T 3 (.int .i64 v) hBT).fz
      have HTK1 := Lib.hid htk1
      have HSC1 := Lib.hid hsc1
      have HCH1 := Lib.hid hch1
      clear htk1 hsc1 hch1 hb1
      go_wp2
      go_ret
      exact .err at0 11 v _ 30 _ HR2.out (by omega) ((HSC1.out.other T 0 _ hBT).other T 3 _ hBT) ((HTK1.out.set0 11).set3 v) ((HCH1.out.setT 0 _).setT 3 _) rfl
     have hv1 : 0 ≤ v := by omega
     cases hwh : Lx.white r[0]
     ·have HR2 : Hid (Lx.char (Lx.tl s at0) = .tok ⟨11, v, []⟩ (Lx.tl s (at0 + 2 + n))) := HR.out.trans (if_neg (by simp [hv0, hwh]))
      go_wp2_with fail
      refine (hnm _).mono ?_; rintro e w1 ⟨rfl, k1, hk⟩
      have hb1 : Below w.heap.size w w1 := by rw [hk]; exact ⟨rfl, rfl, rfl, Nat.le_refl _, fun _ _ => rfl⟩
      clear hk
      have hsc1 := hsc.below hb1
      have htk1 := htk.below hb1
      have hch1 := (Lx.Chg2.refl B T w).of_below hb1
      have d0 := htk1.c0
      have d3 := (htk1.set0 11).c3
      have d3' := ((htk1.set0 11).set3 v).c3
      have e1 := ((hsc1.other T 0 (.int .i64 11) hBT).other T 3 (.int .i64 v) hBT).c1
      have z0 := htk1.fz
      have z1 := (htk1.set0 11).fz
      have z2 := ((hsc1.other T 0 (.int .i64 11) hBT).other T 3 (.int .i64 v) hBT).fz
      have HTK1 := Lib.hid htk1
      have HSC1 := Lib.hid hsc1
      have HCH1 := Lib.hid hch1
      clear htk1 hsc1 hch1 hb1
      go_wp2_with fail
      refine (white_any _ _).mono ?_; rintro e w2 ⟨rfl, rfl⟩
      rw [hwh]
      go_wp2
      go_ret
      exact .tok (at0 + 2 + n) 11 v [] _ _ HR2.out (by omega) (((HSC1.out.other T 0 _ hBT).other T 3 _ hBT).step' _ _ (by omega)) (((HTK1.out.set0 11).set3 v).other B 1 _ (Ne.symm hBT)) (((HCH1.out.setT 0 _).setT 3 _).setB 1 _) rfl rfl
     ·have HR2 : Hid (Lx.char (Lx.tl s at0) = .err 30) := HR.out.trans (if_pos (by simp [hwh]))
      go_wp2_with fail
      refine (hnm _).mono ?_; rintro e w1 ⟨rfl, k1, hk⟩
      have hb1 : Below w.heap.size w w1 := by rw [hk]; exact ⟨rfl, rfl, rfl, Nat.le_refl _, fun _ _ => rfl⟩
      clear hk
      have hsc1 := hsc.below hb1
      have htk1 := htk.below hb1
      have hch1 := (Lx.Chg2.refl B T w).of_below hb1
      have d0 := htk1.c0
      have d3 := (htk1.set0 11).c3
      have d3' := ((htk1.set0 11).set3 v).c3
      have e1 := ((hsc1.other T 0 (.int .i64 11) hBT).other T 3 (.int .i64 v) hBT).c1
      have z0 := htk1.fz
      have z1 := (htk1.set0 11).fz
      have z2 := ((hsc1.other T 0 (.int .i64 11) hBT).other T 3 (.int .i64 v) hBT).fz
      have HTK1 := Lib.hid htk1
      have HSC1 := Lib.hid hsc1
      have HCH1 := Lib.hid hch1
      clear htk1 hsc1 hch1 hb1
      go_wp2_with fail
      refine (white_any _ _).mono ?_; rintro e w2 ⟨rfl, rfl⟩
      rw [hwh]
      go_wp2
      go_ret
      exact .err at0 11 v _ 30 _ HR2.out (by omega) ((HSC1.out.other T 0 _ hBT).other T 3 _ hBT) ((HTK1.out.set0 11).set3 v) ((HCH1.out.setT 0 _).setT 3 _) rfl
end Go.Proofs.Ytcopdfihaheplaa
