/-
  Several texts of this proof in one: RdText, RdQuoted, RdPut, RdPrint, RdLines, RdAwM, RdAwake, RdCutW, RdRowsW.
-/
import Derived.Test.YtcopdfihaheplaaReadB2ZM2
import Derived.Test.YtcopdfihaheplaaReadB2ZM1
import Derived.Test.YtcopdfihaheplaaReadB2ZM3
import Derived.Test.YtcopdfihaheplaaTxK
import Derived.Laws.BytesArg
import Derived.Lib.UnsafeStr
import Derived.Test.YtcopdfihaheplaaLexRefI
namespace Go.Proofs.Ytcopdfihaheplaa
namespace Rd
open Dt
def shortL (k : Int) (l : List D) : Int := match l with
 | [x, _] => if k = 6 ∧ x.k = 5 then (if x.s = sgn 4 then 4 else if x.s = sgn 5 then 5 else if x.s = sgn 6 then 6 else if x.s = sgn 7 then 7 else 0) else 0
 | _ => 0
def wt (k n : Int) (s : List UInt8) : List UInt8 := if k ≤ 3 then (Tx.text (k + 8) n []).getD [] else (Tx.text (k + 8) 0 s).getD []
mutual
def txt : D → List UInt8
 | .mk k n s _ l t =>
  if shortL k l ≠ 0 then Tx.signL (shortL k l) ++ txt2 l
  else if 1 ≤ k ∧ k ≤ 5 then wt k n s.data.toList
  else Tx.signL (if k = 8 then 3 else 1) ++ txts l ++ txtt t ++ [41]
def txt2 : List D → List UInt8
 | [] => []
 | _ :: r => txt1 r
def txt1 : List D → List UInt8
 | [] => []
 | d :: _ => txt d
def txts : List D → List UInt8
 | [] => []
 | d :: r => txt d ++ txtr r
def txtr : List D → List UInt8
 | [] => []
 | d :: r => 32 :: (txt d ++ txtr r)
def txtt : List D → List UInt8
 | [] => []
 | d :: _ => 32 :: 46 :: 32 :: txt d
end
theorem txtr_take : ∀ (l : List D) (j : Nat) (h : j < l.length), txtr (l.take (j + 1)) = txtr (l.take j) ++ 32 :: txt l[j]
 | [], j, h => absurd h (by simp)
 | d :: r, 0, h => by simp [txtr]
 | d :: r, j + 1, h => by
  have := txtr_take r j (by simpa using h)
  rw [List.take_succ_cons, List.take_succ_cons, txtr, txtr, this]
  simp
theorem txts_take (l : List D) (j : Nat) (h : j < l.length) : txts (l.take (j + 1)) = txts (l.take j) ++ (if j = 0 then [] else [32]) ++ txt l[j] := by
 cases l with
 | nil => exact absurd h (by simp)
 | cons d r =>
  cases j with
  | zero => simp [txts, txtr]
  | succ j =>
   rw [List.take_succ_cons, List.take_succ_cons, txts, txts, txtr_take r j (by simpa using h)]
   simp
theorem txts_le (l : List D) (j : Nat) : (txts (l.take j)).length ≤ (txts l).length := by
 have hr : ∀ (r : List D) (j : Nat), (txtr (r.take j)).length ≤ (txtr r).length := by
  intro r
  induction r with
  | nil => intro j; simp
  | cons d r ih =>
   intro j
   cases j with
   | zero => simp [txtr]
   | succ j =>
    rw [List.take_succ_cons, txtr, txtr]
    have := ih j
    simp only [List.length_cons, List.length_append]
    omega
 cases l with
 | nil => simp
 | cons d r =>
  cases j with
  | zero => simp [txts]
  | succ j =>
   rw [List.take_succ_cons, txts, txts]
   have := hr r j
   simp only [List.length_append]
   omega
theorem short_cases (k : Int) (l : List D) : shortL k l = 0 ∨ (k = 6 ∧ 4 ≤ shortL k l ∧ shortL k l ≤ 7 ∧ ∃ x y, l = [x, y] ∧ x.k = 5 ∧ x.s = sgn (shortL k l)) := by
 unfold shortL
 split
 ·rename_i x y
  split
  ·rename_i h
   split
   ·rename_i e; exact .inr ⟨h.1, by decide, by decide, x, y, rfl, h.2, e⟩
   split
   ·rename_i e; exact .inr ⟨h.1, by decide, by decide, x, y, rfl, h.2, e⟩
   split
   ·rename_i e; exact .inr ⟨h.1, by decide, by decide, x, y, rfl, h.2, e⟩
   split
   ·rename_i e; exact .inr ⟨h.1, by decide, by decide, x, y, rfl, h.2, e⟩
   ·exact .inl rfl
  ·exact .inl rfl
 ·exact .inl rfl
theorem wt_len (k n : Int) (s : List UInt8) : (wt k n s).length ≤ 1100 := by
 have h : ∀ (o : Option (List UInt8)), (∀ x, o = some x → x.length ≤ 1100) → (o.getD []).length ≤ 1100 := fun o ho => by
  cases o with
  | none => simp
  | some x => exact ho x rfl
 unfold wt
 split
 ·exact h _ (fun x e => Tx.text_len _ _ _ _ e)
 ·exact h _ (fun x e => Tx.text_len _ _ _ _ e)
theorem sign_len (k : Int) : (Tx.signL k).length ≤ 2 := by
 unfold Tx.signL
 repeat' split
 all_goals simp
theorem txts_r (l : List D) : (txts l).length ≤ (txtr l).length := by
 cases l with
 | nil => simp [txts]
 | cons d r => rw [txts, txtr]; simp
theorem txt2_r (l : List D) : (txt2 l).length ≤ (txtr l).length := by
 cases l with
 | nil => rw [txt2]; simp
 | cons d r =>
  cases r with
  | nil => rw [txt2, txt1]; simp
  | cons e r => rw [txt2, txt1, txtr, txtr]; simp; omega
theorem txtt_r (l : List D) : (txtt l).length ≤ (txtr l).length + 2 := by
 cases l with
 | nil => simp [txtt]
 | cons d r => rw [txtt, txtr]; simp
mutual
theorem cnt : ∀ (d : D) (deep p q : Nat), chk d deep p = (0, q) → p + 1 ≤ q ∧ (txt d).length + 3 + 1110 * p ≤ 1110 * q
 | .mk k n s m l t, deep, p, q, h => by
  rw [chk] at h
  split at h
  ·cases h
  split at h
  ·cases h
  split at h
  ·split at h
   ·rename_i h1
    obtain ⟨e, q1, hq⟩ : ∃ q1, chks l (deep + 1) (p + 1) = (0, q1) ∧ chks t (deep + 1) q1 = (0, q) := ⟨(chks l (deep + 1) (p + 1)).2, by rw [← h1], h⟩
    have a1 := cnts l _ _ _ q1
    have a2 := cnts t _ _ _ hq
    have b1 := txts_r l
    have b2 := txt2_r l
    have b3 := txtt_r t
    refine ⟨by omega, ?_⟩
    rw [txt]
    split
    ·have := sign_len (shortL k l)
     simp only [List.length_append]
     omega
    split
    ·have := wt_len k n s.data.toList
     omega
    ·have := sign_len (if k = 8 then 3 else 1)
     simp only [List.length_append, List.length_cons, List.length_nil]
     omega
   ·rename_i h1
    exact absurd (by rw [h]) h1
  ·cases h
theorem cnts : ∀ (l : List D) (deep p q : Nat), chks l deep p = (0, q) → p ≤ q ∧ (txtr l).length + 1110 * p ≤ 1110 * q
 | [], deep, p, q, h => by
  rw [chks] at h
  cases h
  simp [txtr]
 | d :: r, deep, p, q, h => by
  rw [chks] at h
  split at h
  ·rename_i h1
   have a1 := cnt d deep p (chk d deep p).2 (by rw [← h1])
   have a2 := cnts r _ _ _ h
   rw [txtr]
   simp only [List.length_cons, List.length_append]
   omega
  ·rename_i h1
   exact absurd (by rw [h]) h1
end
theorem txt_len {d : D} (h : check d = 0) : (txt d).length ≤ 4546560 := by
 unfold check at h
 have h1 := cnt d 1 0 (chk d 1 0).2 (by rw [← h])
 have h2 := chk_le d 1 0 (by omega)
 omega
end Rd
end Go.Proofs.Ytcopdfihaheplaa
namespace Go.Proofs.Ytcopdfihaheplaa
open Go.RowKit
attribute [local go_sem] Oper.semAt_some
set_option maxRecDepth 100000 in
theorem signs_at (k : Nat) (hk : k < 4) (w : World) : (Instr.index 91 (.agg #[.string ⟨#[113, 117, 111, 116, 101]⟩, .string ⟨#[113, 117, 97, 115, 105, 113, 117, 111, 116, 101]⟩, .string ⟨#[117, 110, 113, 117, 111, 116, 101]⟩, .string ⟨#[117, 110, 113, 117, 111, 116, 101, 45, 115, 112, 108, 105, 99, 105, 110, 103]⟩]) (.int .i64 (k : Int))).run Try.prog w = .ok (.string (Rd.sgn (4 + (k : Int)))) w := by
 obtain rfl | rfl | rfl | rfl : k = 0 ∨ k = 1 ∨ k = 2 ∨ k = 3 := by omega
 all_goals kernel_rfl
theorem bytes_eq {a b : ByteArray} (h : a.data = b.data) : a = b := by
 cases a; cases b; cases h; rfl
namespace Rd
open Dt
theorem short_at {k : Int} {x y : D} (hk : k = 6) (hx : x.k = 5) {j : Nat} (hj : j < 4) (hb : ∀ i, i < j → x.s ≠ sgn (4 + (i : Int))) (h : x.s = sgn (4 + (j : Int))) : shortL k [x, y] = 4 + (j : Int) := by
 have e : shortL k [x, y] = (if x.s = sgn 4 then 4 else if x.s = sgn 5 then 5 else if x.s = sgn 6 then 6 else if x.s = sgn 7 then 7 else 0) := by
  unfold shortL
  simp only
  rw [if_pos ⟨hk, hx⟩]
 rw [e]
 obtain rfl | rfl | rfl | rfl : j = 0 ∨ j = 1 ∨ j = 2 ∨ j = 3 := by omega
 ·have h' : x.s = sgn 4 := h
  rw [if_pos h']; rfl
 ·have b0 : x.s ≠ sgn 4 := hb 0 (by omega)
  have h' : x.s = sgn 5 := h
  rw [if_neg b0, if_pos h']; rfl
 ·have b0 : x.s ≠ sgn 4 := hb 0 (by omega)
  have b1 : x.s ≠ sgn 5 := hb 1 (by omega)
  have h' : x.s = sgn 6 := h
  rw [if_neg b0, if_neg b1, if_pos h']; rfl
 ·have b0 : x.s ≠ sgn 4 := hb 0 (by omega)
  have b1 : x.s ≠ sgn 5 := hb 1 (by omega)
  have b2 : x.s ≠ sgn 6 := hb 2 (by omega)
  have h' : x.s = sgn 7 := h
  rw [if_neg b0, if_neg b1, if_neg b2, if_pos h']; rfl
theorem short_no {k : Int} {x y : D} (hb : ∀ i, i < 4 → x.s ≠ sgn (4 + ((i : Nat) : Int))) : shortL k [x, y] = 0 := by
 have b0 : x.s ≠ sgn 4 := hb 0 (by omega)
 have b1 : x.s ≠ sgn 5 := hb 1 (by omega)
 have b2 : x.s ≠ sgn 6 := hb 2 (by omega)
 have b3 : x.s ≠ sgn 7 := hb 3 (by omega)
 unfold shortL
 simp only
 rw [if_neg b0, if_neg b1, if_neg b2, if_neg b3]
 split <;> rfl
end Rd
set_option maxRecDepth 100000 in
set_option maxHeartbeats 8000000 in
theorem rdQuoted_any {F : Nat → Prop} (x : Dt.D) (vm vl vt : Value) (w : World) (hR : Dt.Rep F w x vm vl vt) :
  Calls Try.prog 32 #[.agg #[.int .i64 x.k, .int .i64 x.n, .string x.s, vm, vl, vt]] w fun e w' => e = .returned (.int .i64 (Rd.shortL x.k x.l)) ∧ Below w.heap.size w w' := by
 obtain ⟨w1, hw1⟩ : ∃ w1, w.alloc (.cells #[.int .i64 x.k, .int .i64 x.n, .string x.s, vm, vl, vt] 25) = w1 := ⟨_, rfl⟩
 obtain ⟨hb1, hs1⟩ := new_below hw1
 have hX1 := Hp.new hw1
 have hrow := ((Dt.rep_iff _ _ _ _ _ _).1 (hR.below hb1)).2.1
 have HFORM : Hid (∃ b1 m1 p1 b3 m3 p3, vm = .slice b1 m1 p1 ∧ vt = .slice b3 m3 p3) := by
  obtain ⟨b1, m1, p1, b2, m2, p2, b3, m3, p3, e1, -, e3⟩ := hR.forms
  exact ⟨_, _, _, _, _, _, e1, e3⟩
 obtain ⟨R, hRR⟩ : ∃ R, Rd.shortL x.k x.l = R := ⟨_, rfl⟩
 obtain ⟨L, hL⟩ : ∃ L, x.l = L := ⟨_, rfl⟩
 rw [hL] at hrow hRR
 rw [hL, hRR]
 clear hL hR hs1
 obtain ⟨al, cl, rfl, hcl, hcs⟩ := hrow
 obtain ⟨b1, m1, p1, b3, m3, p3, e1, e3⟩ : ∃ b1 m1 p1 b3 m3 p3, vm = .slice b1 m1 p1 ∧ vt = .slice b3 m3 p3 := HFORM.out
 subst e1 e3
 obtain ⟨X, hX⟩ : ∃ X, w.heap.size = X := ⟨_, rfl⟩
 rw [hX] at hX1
 have HX1 := Lib.hid hX1
 have x0 := hX1.cell 0 rfl
 have x4 := hX1.cell 4 rfl
 have HB1 := Lib.hid hb1
 have HW1 := Lib.hid hw1
 clear hX1 hb1
 by_cases h6 : x.k = 6
 case neg =>
  have h6' : (x.k == 6) = false := by simpa using h6
  have HE : Hid (R = 0) := hRR.symm.trans ((Rd.short_cases x.k L).elim id (fun h => absurd h.1 h6))
  clear hRR hcs h6
  go_enter Try.func32, Try.ntmps32
  go_wp2
  go_ret
  rw [HE.out]
  exact ⟨rfl, HB1.out⟩
 have h6' : (x.k == 6) = true := by simpa using h6
 by_cases h2 : L.length = 2
 case neg =>
  have h2' : ((L.length : Int) == 2) = false := by simp; omega
  have HE : Hid (R = 0) := hRR.symm.trans ((Rd.short_cases x.k L).elim id (fun h => by obtain ⟨y, z, e, -⟩ := h.2.2.2; rw [e] at h2; exact absurd rfl h2))
  clear hRR hcs h6 h2
  go_enter Try.func32, Try.ntmps32
  go_wp2
  go_ret
  rw [HE.out]
  exact ⟨rfl, HB1.out⟩
 obtain ⟨y, z, rfl⟩ : ∃ y z, L = [y, z] := by
  match L, h2 with
  | [y, z], _ => exact ⟨y, z, rfl⟩
 obtain ⟨g, o, rfl, -, hgl, hreps⟩ := hcs (by simp)
 obtain ⟨um, ul, ut, hsix, -⟩ := hreps.at 0 (by simp)
 rw [Nat.zero_mul, Nat.add_zero] at hsix
 have y0 := hsix.c0
 have y2 := hsix.c2
 simp only [List.getElem_cons_zero] at y0 y2
 rw [show ([y, z] : List Dt.D).length = 2 from rfl] at x4 HX1 HW1 hw1
 have HSX := Lib.hid hsix
 have HGL := Lib.hid hgl
 clear hreps hsix h2 hgl
 by_cases h5 : y.k = 5
 case neg =>
  have h5' : (y.k == 5) = false := by simpa using h5
  have HE : Hid (R = 0) := hRR.symm.trans ((Rd.short_cases x.k [y, z]).elim id (fun h => by obtain ⟨y', z', e, h7, -⟩ := h.2.2.2; cases e; exact absurd h7 h5))
  clear hRR hcs h6 h5
  go_enter Try.func32, Try.ntmps32
  go_wp2
  go_ret
  rw [HE.out]
  exact ⟨rfl, HB1.out⟩
 have h5' : (y.k == 5) = true := by simpa using h5
 have hsg := signs_any w1
 have HRR : Hid (Rd.shortL x.k [y, z] = R) := hRR
 have H56 : Hid (x.k = 6 ∧ y.k = 5) := ⟨h6, h5⟩
 clear hRR hcs h6 h5
 go_enter Try.func32, Try.ntmps32
 go_wp2_with fail
 refine hsg.mono ?_
 rintro e w2 ⟨rfl, hb2⟩
 have HBW : Hid (Below w.heap.size w w2) := HB1.out.trans (hb2.mono HB1.out.size)
 have hX2 := HX1.out.below hb2
 have x4' := hX2.cell 4 rfl
 have y2' := (HSX.out.keep (S := fun _ => False) (keep_of_below hb2) HGL.out id).c2
 simp only [List.getElem_cons_zero] at y2'
 clear hsg hb2 hX2 x0 x4 y0 y2 hw1
 go_wp2
 go_loopw [23] (fun vi wr => ∃ k : Nat, vi = .int .i64 k ∧ k ≤ 4 ∧ Hid (∀ i, i < k → y.s ≠ Rd.sgn (4 + (i : Int))) ∧ wr = w2) (fun vi _ => 4 - (intOf vi).toNat)
 case atStart => exact ⟨0, rfl, by omega, fun i hi => absurd hi (by omega), rfl⟩
 case round =>
  obtain ⟨k, rfl, hk, HNE, rfl⟩ := hrel
  by_cases hlt : k < 4
  ·have hki : (k : Int) < 4 := by omega
   have hix := signs_at k hlt
   by_cases he : y.s = Rd.sgn (4 + (k : Int))
   ·have HE : Hid (R = 4 + (k : Int)) := HRR.out.symm.trans (Rd.short_at H56.out.1 H56.out.2 hlt HNE.out he)
    rw [he] at y2'
    go_wp2
    go_ret
    rw [HE.out]
    exact ⟨rfl, HBW.out⟩
   ·have he' : (y.s.toList == (Rd.sgn (4 + (k : Int))).toList) = false := by
     rw [ByteArray.toList_eq, ByteArray.toList_eq, beq_eq_false_iff_ne]
     intro e
     exact he (bytes_eq (Array.toList_inj.1 e))
    have HN : Hid (∀ i, i < k + 1 → y.s ≠ Rd.sgn (4 + (i : Int))) := fun i hi => by
     rcases Nat.lt_succ_iff_lt_or_eq.1 hi with hi | rfl
     ·exact HNE.out i hi
     ·exact he
    clear he
    go_wp2
    go_roundw
    case rel => exact ⟨k + 1, by simp, by omega, HN, trivial⟩
    case measure => simp [intOf]; omega
  ·obtain rfl : k = 4 := by omega
   have HE : Hid (R = 0) := HRR.out.symm.trans (Rd.short_no (fun i hi => HNE.out i hi))
   go_wp2
   go_ret
   rw [HE.out]
   exact ⟨rfl, HBW.out⟩
end Go.Proofs.Ytcopdfihaheplaa
namespace Go.Proofs.Ytcopdfihaheplaa
open Go.RowKit
attribute [local go_sem] Oper.semAt_some
namespace Rd
open Dt
def Fine (d : D) : Prop := ∃ deep p q, chk d deep p = (0, q)
theorem chks_each : ∀ (l : List D) (deep p q : Nat), chks l deep p = (0, q) → ∀ x ∈ l, Fine x
 | [], _, _, _, _, x, hx => by cases hx
 | d :: r, deep, p, q, h, x, hx => by
  rw [chks] at h
  split at h
  ·rename_i h1
   rcases List.mem_cons.1 hx with rfl | hx
   ·exact ⟨deep, p, (chk x deep p).2, by rw [← h1]⟩
   ·exact chks_each r _ _ _ h x hx
  ·rename_i h1
   exact absurd (by rw [h]) h1
theorem fine_parts {d : D} (h : Fine d) : single d = true ∧ (∀ x ∈ d.l, Fine x) ∧ (∀ x ∈ d.t, Fine x) := by
 obtain ⟨deep, p, q, h⟩ := h
 cases d
 rename_i k n s m l t
 rw [chk] at h
 split at h
 ·cases h
 split at h
 ·cases h
 split at h
 ·rename_i hs
  split at h
  ·rename_i h1
   exact ⟨hs, chks_each l (deep + 1) (p + 1) (chks l (deep + 1) (p + 1)).2 (by rw [← h1]), chks_each t _ _ _ h⟩
  ·rename_i h1
   exact absurd (by rw [h]) h1
 ·cases h
theorem fine_of {d : D} (h : check d = 0) : Fine d := ⟨1, 0, (chk d 1 0).2, by unfold check at h; rw [← h]⟩
theorem sg_short {s : List UInt8} (h : Lx.symbol s = true) : s.length ≤ 1000000 := by have := Tx.sym_len s h; omega
theorem single_s {d : D} (h : single d = true) : d.s.size ≤ 1000000 := by
 cases d
 rename_i k n s m l t
 show s.size ≤ 1000000
 rw [← Fx.size_toList]
 unfold single at h
 have h0 : ∀ (b : List UInt8), b.isEmpty = true → b.length ≤ 1000000 := fun b hb => by rw [List.isEmpty_iff.1 hb]; simp
 simp only at h
 by_cases h4 : k = 4
 ·subst h4
  rw [if_neg (by decide), if_neg (by decide), if_neg (by decide), if_pos rfl] at h
  simp only [Bool.and_eq_true, ascii, decide_eq_true_eq] at h
  omega
 by_cases h5 : k = 5
 ·subst h5
  rw [if_neg (by decide), if_neg (by decide), if_neg (by decide), if_neg (by decide), if_pos rfl] at h
  simp only [Bool.and_eq_true] at h
  exact sg_short h.1.1.1.1.1
 ·refine h0 _ ?_
  revert h
  repeat' split
  all_goals (intro h; first | (simp only [Bool.and_eq_true] at h; first | exact h.1.1.1.2 | exact h.1.1.2 | exact h.1.1.1.1.2) | exact absurd ‹k = 4› h4 | exact absurd ‹k = 5› h5 | cases h)
theorem Pw.from {base P : Nat} {w w1 w' : World} {acc : List UInt8} {v0 v : Value} (hb : Below w.heap.size w w1) (h : Pw base P w1 v0 w' acc v) : Pw base P w v0 w' acc v :=
 ⟨h.hp, h.row, (keep_of_below hb).trans h.kp, h.ow.elim .inl (fun ⟨k, e, hk⟩ => .inr ⟨k, e, Nat.le_trans hb.size hk⟩)⟩
theorem V_getD (o : Option (List UInt8)) : Tx.V o = .tuple #[.string ⟨(o.getD []).toArray⟩, .int .i64 (o.elim 30 (fun _ => 0))] := by cases o <;> rfl
def PutIs (d : D) : Prop := ∀ (F : Nat → Prop) (base P : Nat) (acc : List UInt8) (v0 vm vl vt : Value) (w : World), Wf d → Fine d → Rep F w d vm vl vt → (∀ k, F k → k < base ∧ k ≠ P) → Pw base P w v0 w acc v0 → P < base → base ≤ w.heap.size → acc.length + (txt d).length ≤ 140737488355328 →
 Calls Try.prog 20 #[.pointer (some ⟨P, 0, none⟩), .agg #[.int .i64 d.k, .int .i64 d.n, .string d.s, vm, vl, vt]] w (PutP base P (acc ++ txt d) v0 w)
end Rd
theorem psign1 : Hid (∀ W, Calls Try.prog 52 #[.agg #[.int .i64 1, .int .i64 0, .int .i64 0, .int .i64 0, .string ⟨#[]⟩]] W fun e w' => e = .returned (.tuple #[.string ⟨(Tx.signL 1).toArray⟩, .int .i64 0]) ∧ Below W.heap.size W w') := fun W => Text1_any 0 0 0 ⟨#[]⟩ W
theorem psign2 : Hid (∀ W, Calls Try.prog 52 #[.agg #[.int .i64 2, .int .i64 0, .int .i64 0, .int .i64 0, .string ⟨#[]⟩]] W fun e w' => e = .returned (.tuple #[.string ⟨(Tx.signL 2).toArray⟩, .int .i64 0]) ∧ Below W.heap.size W w') := fun W => Text2_any 0 0 0 ⟨#[]⟩ W
theorem psign3 : Hid (∀ W, Calls Try.prog 52 #[.agg #[.int .i64 3, .int .i64 0, .int .i64 0, .int .i64 0, .string ⟨#[]⟩]] W fun e w' => e = .returned (.tuple #[.string ⟨(Tx.signL 3).toArray⟩, .int .i64 0]) ∧ Below W.heap.size W w') := fun W => Text3_any 0 0 0 ⟨#[]⟩ W
theorem psign4 : Hid (∀ W, Calls Try.prog 52 #[.agg #[.int .i64 4, .int .i64 0, .int .i64 0, .int .i64 0, .string ⟨#[]⟩]] W fun e w' => e = .returned (.tuple #[.string ⟨(Tx.signL 4).toArray⟩, .int .i64 0]) ∧ Below W.heap.size W w') := fun W => Text4_any 0 0 0 ⟨#[]⟩ W
theorem psign5 : Hid (∀ W, Calls Try.prog 52 #[.agg #[.int .i64 5, .int .i64 0, .int .i64 0, .int .i64 0, .string ⟨#[]⟩]] W fun e w' => e = .returned (.tuple #[.string ⟨(Tx.signL 5).toArray⟩, .int .i64 0]) ∧ Below W.heap.size W w') := fun W => Text5_any 0 0 0 ⟨#[]⟩ W
theorem psign6 : Hid (∀ W, Calls Try.prog 52 #[.agg #[.int .i64 6, .int .i64 0, .int .i64 0, .int .i64 0, .string ⟨#[]⟩]] W fun e w' => e = .returned (.tuple #[.string ⟨(Tx.signL 6).toArray⟩, .int .i64 0]) ∧ Below W.heap.size W w') := fun W => Text6_any 0 0 0 ⟨#[]⟩ W
theorem psign7 : Hid (∀ W, Calls Try.prog 52 #[.agg #[.int .i64 7, .int .i64 0, .int .i64 0, .int .i64 0, .string ⟨#[]⟩]] W fun e w' => e = .returned (.tuple #[.string ⟨(Tx.signL 7).toArray⟩, .int .i64 0]) ∧ Below W.heap.size W w') := fun W => Text7_any 0 0 0 ⟨#[]⟩ W
set_option maxRecDepth 100000 in
set_option maxHeartbeats 8000000 in
theorem put_leaf1 {F : Nat → Prop} (n : Int) (s : ByteArray) (m : List Int) (l t : List Dt.D) (base P : Nat) (acc : List UInt8) (v0 vm vl vt : Value) (w : World) (hn : -9223372036854775808 ≤ n ∧ n ≤ 9223372036854775807) (_hs : s.size ≤ 1000000) (hR : Dt.Rep F w (.mk 1 n s m l t) vm vl vt)
  (hP : Rd.Pw base P w v0 w acc v0) (hPb : P < base) (hb : base ≤ w.heap.size) (hl : acc.length + (Rd.wt 1 n s.data.toList).length ≤ 140737488355328) :
  Calls Try.prog 20 #[.pointer (some ⟨P, 0, none⟩), .agg #[.int .i64 1, .int .i64 n, .string s, vm, vl, vt]] w (Rd.PutP base P (acc ++ Rd.wt 1 n s.data.toList) v0 w) := by
 obtain ⟨b1, m1, p1, b2, m2, p2, b3, m3, p3, rfl, rfl, rfl⟩ := hR.forms
 obtain ⟨w1, hw1⟩ : ∃ w1, w.alloc (.cells #[.int .i64 1, .int .i64 n, .string s, .slice b1 m1 p1, .slice b2 m2 p2, .slice b3 m3 p3] 25) = w1 := ⟨_, rfl⟩
 obtain ⟨hb1, hs1⟩ := new_below hw1
 have hX1 := Hp.new hw1
 have hq := rdQuoted_any (.mk 1 n s m l t) _ _ _ w1 (hR.below hb1)
 rw [show Rd.shortL (Dt.D.mk 1 n s m l t).k (Dt.D.mk 1 n s m l t).l = 0 from (Rd.short_cases 1 l).elim id (fun h => absurd h.1 (by decide))] at hq
 simp only [Dt.D.k, Dt.D.n, Dt.D.s] at hq
 obtain ⟨X, hX⟩ : ∃ X, w.heap.size = X := ⟨_, rfl⟩
 rw [hX] at hX1 hs1
 obtain ⟨c, x, hx, HT⟩ : ∃ (c : Int) (x : List UInt8), Rd.wt 1 n s.data.toList = x ∧ Hid (∀ W, Calls Try.prog 52 #[.agg #[.int .i64 9, .int .i64 0, .int .i64 0, .int .i64 n, .string ⟨#[]⟩]] W fun e w' => e = .returned (.tuple #[.string ⟨x.toArray⟩, .int .i64 c]) ∧ Below W.heap.size W w') := by
  refine ⟨(Tx.text 9 n (⟨#[]⟩ : ByteArray).data.toList).elim 30 (fun _ => 0), _, rfl, fun W => ?_⟩
  have h := Text9_any 0 0 n ⟨#[]⟩ W (by decide) hn
  rw [Rd.V_getD] at h
  exact h
 rw [hx] at hl ⊢
 have HB1 := Lib.hid hb1
 have HX1 := Lib.hid hX1
 have HPW := Lib.hid hP
 have HBB : Hid (base ≤ w1.heap.size ∧ w.heap.size = X) := ⟨by have := hb1.size; omega, hX⟩
 have x0 := hX1.cell 0 rfl
 have x1 := hX1.cell 1 rfl
 have x2 := hX1.cell 2 rfl
 have x3 := hX1.cell 3 rfl
 have x4 := hX1.cell 4 rfl
 have x5 := hX1.cell 5 rfl
 clear hX1 hb1 hs1 hR hP hb hx
 go_enter Try.func20, Try.ntmps20
 go_wp2_with fail
 refine hq.mono ?_
 rintro e w2 ⟨rfl, hb2⟩
 have hX2 := HX1.out.below hb2
 have hp2 := (HPW.out.below HB1.out).below hb2
 have hww : Below w.heap.size w w2 := HB1.out.trans (hb2.mono HB1.out.size)
 have hcw := pword_any 9 n c ⟨#[]⟩ x HT base P acc w2 v0 hp2.again hPb (by have := HBB.out; have := hb2.size; omega) hl
 have HWW := Lib.hid hww
 clear x0 x1 x2 x3 x4 x5 hw1 hq hb2 hp2 hww
 have x0 := hX2.cell 0 rfl
 have x1 := hX2.cell 1 rfl
 have x2 := hX2.cell 2 rfl
 have x3 := hX2.cell 3 rfl
 have x4 := hX2.cell 4 rfl
 have x5 := hX2.cell 5 rfl
 clear hX2
 go_wp2_with fail
 refine hcw.mono ?_
 rintro e w3 ⟨rfl, v3, hp3⟩
 have HE : Hid (Rd.PutP base P (acc ++ x) v0 w (.returned (.tuple #[])) w3) := ⟨rfl, v3, Rd.Pw.from HWW.out hp3⟩
 clear hcw hp3 x0 x1 x2 x3 x4 x5
 go_wp2
 refine bodyPost_ret (v := .tuple #[]) (by simp [results, Try.results20, go_sem, *]) rfl ?_
 exact HE.out
set_option maxRecDepth 100000 in
set_option maxHeartbeats 8000000 in
theorem put_leaf2 {F : Nat → Prop} (n : Int) (s : ByteArray) (m : List Int) (l t : List Dt.D) (base P : Nat) (acc : List UInt8) (v0 vm vl vt : Value) (w : World) (hn : -9223372036854775808 ≤ n ∧ n ≤ 9223372036854775807) (_hs : s.size ≤ 1000000) (hR : Dt.Rep F w (.mk 2 n s m l t) vm vl vt)
  (hP : Rd.Pw base P w v0 w acc v0) (hPb : P < base) (hb : base ≤ w.heap.size) (hl : acc.length + (Rd.wt 2 n s.data.toList).length ≤ 140737488355328) :
  Calls Try.prog 20 #[.pointer (some ⟨P, 0, none⟩), .agg #[.int .i64 2, .int .i64 n, .string s, vm, vl, vt]] w (Rd.PutP base P (acc ++ Rd.wt 2 n s.data.toList) v0 w) := by
 obtain ⟨b1, m1, p1, b2, m2, p2, b3, m3, p3, rfl, rfl, rfl⟩ := hR.forms
 obtain ⟨w1, hw1⟩ : ∃ w1, w.alloc (.cells #[.int .i64 2, .int .i64 n, .string s, .slice b1 m1 p1, .slice b2 m2 p2, .slice b3 m3 p3] 25) = w1 := ⟨_, rfl⟩
 obtain ⟨hb1, hs1⟩ := new_below hw1
 have hX1 := Hp.new hw1
 have hq := rdQuoted_any (.mk 2 n s m l t) _ _ _ w1 (hR.below hb1)
 rw [show Rd.shortL (Dt.D.mk 2 n s m l t).k (Dt.D.mk 2 n s m l t).l = 0 from (Rd.short_cases 2 l).elim id (fun h => absurd h.1 (by decide))] at hq
 simp only [Dt.D.k, Dt.D.n, Dt.D.s] at hq
 obtain ⟨X, hX⟩ : ∃ X, w.heap.size = X := ⟨_, rfl⟩
 rw [hX] at hX1 hs1
 obtain ⟨c, x, hx, HT⟩ : ∃ (c : Int) (x : List UInt8), Rd.wt 2 n s.data.toList = x ∧ Hid (∀ W, Calls Try.prog 52 #[.agg #[.int .i64 10, .int .i64 0, .int .i64 0, .int .i64 n, .string ⟨#[]⟩]] W fun e w' => e = .returned (.tuple #[.string ⟨x.toArray⟩, .int .i64 c]) ∧ Below W.heap.size W w') := by
  refine ⟨(Tx.text 10 n (⟨#[]⟩ : ByteArray).data.toList).elim 30 (fun _ => 0), _, rfl, fun W => ?_⟩
  have h := Text10_any 0 0 n ⟨#[]⟩ W (by decide) hn
  rw [Rd.V_getD] at h
  exact h
 rw [hx] at hl ⊢
 have HB1 := Lib.hid hb1
 have HX1 := Lib.hid hX1
 have HPW := Lib.hid hP
 have HBB : Hid (base ≤ w1.heap.size ∧ w.heap.size = X) := ⟨by have := hb1.size; omega, hX⟩
 have x0 := hX1.cell 0 rfl
 have x1 := hX1.cell 1 rfl
 have x2 := hX1.cell 2 rfl
 have x3 := hX1.cell 3 rfl
 have x4 := hX1.cell 4 rfl
 have x5 := hX1.cell 5 rfl
 clear hX1 hb1 hs1 hR hP hb hx
 go_enter Try.func20, Try.ntmps20
 go_wp2_with fail
 refine hq.mono ?_
 rintro e w2 ⟨rfl, hb2⟩
 have hX2 := HX1.out.below hb2
 have hp2 := (HPW.out.below HB1.out).below hb2
 have hww : Below w.heap.size w w2 := HB1.out.trans (hb2.mono HB1.out.size)
 have hcw := pword_any 10 n c ⟨#[]⟩ x HT base P acc w2 v0 hp2.again hPb (by have := HBB.out; have := hb2.size; omega) hl
 have HWW := Lib.hid hww
 clear x0 x1 x2 x3 x4 x5 hw1 hq hb2 hp2 hww
 have x0 := hX2.cell 0 rfl
 have x1 := hX2.cell 1 rfl
 have x2 := hX2.cell 2 rfl
 have x3 := hX2.cell 3 rfl
 have x4 := hX2.cell 4 rfl
 have x5 := hX2.cell 5 rfl
 clear hX2
 go_wp2_with fail
 refine hcw.mono ?_
 rintro e w3 ⟨rfl, v3, hp3⟩
 have HE : Hid (Rd.PutP base P (acc ++ x) v0 w (.returned (.tuple #[])) w3) := ⟨rfl, v3, Rd.Pw.from HWW.out hp3⟩
 clear hcw hp3 x0 x1 x2 x3 x4 x5
 go_wp2
 refine bodyPost_ret (v := .tuple #[]) (by simp [results, Try.results20, go_sem, *]) rfl ?_
 exact HE.out
set_option maxRecDepth 100000 in
set_option maxHeartbeats 8000000 in
theorem put_leaf3 {F : Nat → Prop} (n : Int) (s : ByteArray) (m : List Int) (l t : List Dt.D) (base P : Nat) (acc : List UInt8) (v0 vm vl vt : Value) (w : World) (hn : -9223372036854775808 ≤ n ∧ n ≤ 9223372036854775807) (_hs : s.size ≤ 1000000) (hR : Dt.Rep F w (.mk 3 n s m l t) vm vl vt)
  (hP : Rd.Pw base P w v0 w acc v0) (hPb : P < base) (hb : base ≤ w.heap.size) (hl : acc.length + (Rd.wt 3 n s.data.toList).length ≤ 140737488355328) :
  Calls Try.prog 20 #[.pointer (some ⟨P, 0, none⟩), .agg #[.int .i64 3, .int .i64 n, .string s, vm, vl, vt]] w (Rd.PutP base P (acc ++ Rd.wt 3 n s.data.toList) v0 w) := by
 obtain ⟨b1, m1, p1, b2, m2, p2, b3, m3, p3, rfl, rfl, rfl⟩ := hR.forms
 obtain ⟨w1, hw1⟩ : ∃ w1, w.alloc (.cells #[.int .i64 3, .int .i64 n, .string s, .slice b1 m1 p1, .slice b2 m2 p2, .slice b3 m3 p3] 25) = w1 := ⟨_, rfl⟩
 obtain ⟨hb1, hs1⟩ := new_below hw1
 have hX1 := Hp.new hw1
 have hq := rdQuoted_any (.mk 3 n s m l t) _ _ _ w1 (hR.below hb1)
 rw [show Rd.shortL (Dt.D.mk 3 n s m l t).k (Dt.D.mk 3 n s m l t).l = 0 from (Rd.short_cases 3 l).elim id (fun h => absurd h.1 (by decide))] at hq
 simp only [Dt.D.k, Dt.D.n, Dt.D.s] at hq
 obtain ⟨X, hX⟩ : ∃ X, w.heap.size = X := ⟨_, rfl⟩
 rw [hX] at hX1 hs1
 obtain ⟨c, x, hx, HT⟩ : ∃ (c : Int) (x : List UInt8), Rd.wt 3 n s.data.toList = x ∧ Hid (∀ W, Calls Try.prog 52 #[.agg #[.int .i64 11, .int .i64 0, .int .i64 0, .int .i64 n, .string ⟨#[]⟩]] W fun e w' => e = .returned (.tuple #[.string ⟨x.toArray⟩, .int .i64 c]) ∧ Below W.heap.size W w') := by
  refine ⟨(Tx.text 11 n (⟨#[]⟩ : ByteArray).data.toList).elim 30 (fun _ => 0), _, rfl, fun W => ?_⟩
  have h := Text11_any 0 0 n ⟨#[]⟩ W (by decide) hn
  rw [Rd.V_getD] at h
  exact h
 rw [hx] at hl ⊢
 have HB1 := Lib.hid hb1
 have HX1 := Lib.hid hX1
 have HPW := Lib.hid hP
 have HBB : Hid (base ≤ w1.heap.size ∧ w.heap.size = X) := ⟨by have := hb1.size; omega, hX⟩
 have x0 := hX1.cell 0 rfl
 have x1 := hX1.cell 1 rfl
 have x2 := hX1.cell 2 rfl
 have x3 := hX1.cell 3 rfl
 have x4 := hX1.cell 4 rfl
 have x5 := hX1.cell 5 rfl
 clear hX1 hb1 hs1 hR hP hb hx
 go_enter Try.func20, Try.ntmps20
 go_wp2_with fail
 refine hq.mono ?_
 rintro e w2 ⟨rfl, hb2⟩
 have hX2 := HX1.out.below hb2
 have hp2 := (HPW.out.below HB1.out).below hb2
 have hww : Below w.heap.size w w2 := HB1.out.trans (hb2.mono HB1.out.size)
 have hcw := pword_any 11 n c ⟨#[]⟩ x HT base P acc w2 v0 hp2.again hPb (by have := HBB.out; have := hb2.size; omega) hl
 have HWW := Lib.hid hww
 clear x0 x1 x2 x3 x4 x5 hw1 hq hb2 hp2 hww
 have x0 := hX2.cell 0 rfl
 have x1 := hX2.cell 1 rfl
 have x2 := hX2.cell 2 rfl
 have x3 := hX2.cell 3 rfl
 have x4 := hX2.cell 4 rfl
 have x5 := hX2.cell 5 rfl
 clear hX2
 go_wp2_with fail
 refine hcw.mono ?_
 rintro e w3 ⟨rfl, v3, hp3⟩
 have HE : Hid (Rd.PutP base P (acc ++ x) v0 w (.returned (.tuple #[])) w3) := ⟨rfl, v3, Rd.Pw.from HWW.out hp3⟩
 clear hcw hp3 x0 x1 x2 x3 x4 x5
 go_wp2
 refine bodyPost_ret (v := .tuple #[]) (by simp [results, Try.results20, go_sem, *]) rfl ?_
 exact HE.out
set_option maxRecDepth 100000 in
set_option maxHeartbeats 8000000 in
theorem put_leaf4 {F : Nat → Prop} (n : Int) (s : ByteArray) (m : List Int) (l t : List Dt.D) (base P : Nat) (acc : List UInt8) (v0 vm vl vt : Value) (w : World) (_hn : -9223372036854775808 ≤ n ∧ n ≤ 9223372036854775807) (hs : s.size ≤ 1000000) (hR : Dt.Rep F w (.mk 4 n s m l t) vm vl vt)
  (hP : Rd.Pw base P w v0 w acc v0) (hPb : P < base) (hb : base ≤ w.heap.size) (hl : acc.length + (Rd.wt 4 n s.data.toList).length ≤ 140737488355328) :
  Calls Try.prog 20 #[.pointer (some ⟨P, 0, none⟩), .agg #[.int .i64 4, .int .i64 n, .string s, vm, vl, vt]] w (Rd.PutP base P (acc ++ Rd.wt 4 n s.data.toList) v0 w) := by
 obtain ⟨b1, m1, p1, b2, m2, p2, b3, m3, p3, rfl, rfl, rfl⟩ := hR.forms
 obtain ⟨w1, hw1⟩ : ∃ w1, w.alloc (.cells #[.int .i64 4, .int .i64 n, .string s, .slice b1 m1 p1, .slice b2 m2 p2, .slice b3 m3 p3] 25) = w1 := ⟨_, rfl⟩
 obtain ⟨hb1, hs1⟩ := new_below hw1
 have hX1 := Hp.new hw1
 have hq := rdQuoted_any (.mk 4 n s m l t) _ _ _ w1 (hR.below hb1)
 rw [show Rd.shortL (Dt.D.mk 4 n s m l t).k (Dt.D.mk 4 n s m l t).l = 0 from (Rd.short_cases 4 l).elim id (fun h => absurd h.1 (by decide))] at hq
 simp only [Dt.D.k, Dt.D.n, Dt.D.s] at hq
 obtain ⟨X, hX⟩ : ∃ X, w.heap.size = X := ⟨_, rfl⟩
 rw [hX] at hX1 hs1
 obtain ⟨c, x, hx, HT⟩ : ∃ (c : Int) (x : List UInt8), Rd.wt 4 n s.data.toList = x ∧ Hid (∀ W, Calls Try.prog 52 #[.agg #[.int .i64 12, .int .i64 0, .int .i64 0, .int .i64 0, .string s]] W fun e w' => e = .returned (.tuple #[.string ⟨x.toArray⟩, .int .i64 c]) ∧ Below W.heap.size W w') := by
  refine ⟨(Tx.text 12 0 (s : ByteArray).data.toList).elim 30 (fun _ => 0), _, rfl, fun W => ?_⟩
  have h := Text12_any 0 0 0 s W hs (by decide)
  rw [Rd.V_getD] at h
  exact h
 rw [hx] at hl ⊢
 have HB1 := Lib.hid hb1
 have HX1 := Lib.hid hX1
 have HPW := Lib.hid hP
 have HBB : Hid (base ≤ w1.heap.size ∧ w.heap.size = X) := ⟨by have := hb1.size; omega, hX⟩
 have x0 := hX1.cell 0 rfl
 have x1 := hX1.cell 1 rfl
 have x2 := hX1.cell 2 rfl
 have x3 := hX1.cell 3 rfl
 have x4 := hX1.cell 4 rfl
 have x5 := hX1.cell 5 rfl
 clear hX1 hb1 hs1 hR hP hb hx
 go_enter Try.func20, Try.ntmps20
 go_wp2_with fail
 refine hq.mono ?_
 rintro e w2 ⟨rfl, hb2⟩
 have hX2 := HX1.out.below hb2
 have hp2 := (HPW.out.below HB1.out).below hb2
 have hww : Below w.heap.size w w2 := HB1.out.trans (hb2.mono HB1.out.size)
 have hcw := pword_any 12 0 c s x HT base P acc w2 v0 hp2.again hPb (by have := HBB.out; have := hb2.size; omega) hl
 have HWW := Lib.hid hww
 clear x0 x1 x2 x3 x4 x5 hw1 hq hb2 hp2 hww
 have x0 := hX2.cell 0 rfl
 have x1 := hX2.cell 1 rfl
 have x2 := hX2.cell 2 rfl
 have x3 := hX2.cell 3 rfl
 have x4 := hX2.cell 4 rfl
 have x5 := hX2.cell 5 rfl
 clear hX2
 go_wp2_with fail
 refine hcw.mono ?_
 rintro e w3 ⟨rfl, v3, hp3⟩
 have HE : Hid (Rd.PutP base P (acc ++ x) v0 w (.returned (.tuple #[])) w3) := ⟨rfl, v3, Rd.Pw.from HWW.out hp3⟩
 clear hcw hp3 x0 x1 x2 x3 x4 x5
 go_wp2
 refine bodyPost_ret (v := .tuple #[]) (by simp [results, Try.results20, go_sem, *]) rfl ?_
 exact HE.out
set_option maxRecDepth 100000 in
set_option maxHeartbeats 8000000 in
theorem put_leaf5 {F : Nat → Prop} (n : Int) (s : ByteArray) (m : List Int) (l t : List Dt.D) (base P : Nat) (acc : List UInt8) (v0 vm vl vt : Value) (w : World) (_hn : -9223372036854775808 ≤ n ∧ n ≤ 9223372036854775807) (hs : s.size ≤ 1000000) (hR : Dt.Rep F w (.mk 5 n s m l t) vm vl vt)
  (hP : Rd.Pw base P w v0 w acc v0) (hPb : P < base) (hb : base ≤ w.heap.size) (hl : acc.length + (Rd.wt 5 n s.data.toList).length ≤ 140737488355328) :
  Calls Try.prog 20 #[.pointer (some ⟨P, 0, none⟩), .agg #[.int .i64 5, .int .i64 n, .string s, vm, vl, vt]] w (Rd.PutP base P (acc ++ Rd.wt 5 n s.data.toList) v0 w) := by
 obtain ⟨b1, m1, p1, b2, m2, p2, b3, m3, p3, rfl, rfl, rfl⟩ := hR.forms
 obtain ⟨w1, hw1⟩ : ∃ w1, w.alloc (.cells #[.int .i64 5, .int .i64 n, .string s, .slice b1 m1 p1, .slice b2 m2 p2, .slice b3 m3 p3] 25) = w1 := ⟨_, rfl⟩
 obtain ⟨hb1, hs1⟩ := new_below hw1
 have hX1 := Hp.new hw1
 have hq := rdQuoted_any (.mk 5 n s m l t) _ _ _ w1 (hR.below hb1)
 rw [show Rd.shortL (Dt.D.mk 5 n s m l t).k (Dt.D.mk 5 n s m l t).l = 0 from (Rd.short_cases 5 l).elim id (fun h => absurd h.1 (by decide))] at hq
 simp only [Dt.D.k, Dt.D.n, Dt.D.s] at hq
 obtain ⟨X, hX⟩ : ∃ X, w.heap.size = X := ⟨_, rfl⟩
 rw [hX] at hX1 hs1
 obtain ⟨c, x, hx, HT⟩ : ∃ (c : Int) (x : List UInt8), Rd.wt 5 n s.data.toList = x ∧ Hid (∀ W, Calls Try.prog 52 #[.agg #[.int .i64 13, .int .i64 0, .int .i64 0, .int .i64 0, .string s]] W fun e w' => e = .returned (.tuple #[.string ⟨x.toArray⟩, .int .i64 c]) ∧ Below W.heap.size W w') := by
  refine ⟨(Tx.text 13 0 (s : ByteArray).data.toList).elim 30 (fun _ => 0), _, rfl, fun W => ?_⟩
  have h := Text13_any 0 0 0 s W hs (by decide)
  rw [Rd.V_getD] at h
  exact h
 rw [hx] at hl ⊢
 have HB1 := Lib.hid hb1
 have HX1 := Lib.hid hX1
 have HPW := Lib.hid hP
 have HBB : Hid (base ≤ w1.heap.size ∧ w.heap.size = X) := ⟨by have := hb1.size; omega, hX⟩
 have x0 := hX1.cell 0 rfl
 have x1 := hX1.cell 1 rfl
 have x2 := hX1.cell 2 rfl
 have x3 := hX1.cell 3 rfl
 have x4 := hX1.cell 4 rfl
 have x5 := hX1.cell 5 rfl
 clear hX1 hb1 hs1 hR hP hb hx
 go_enter Try.func20, Try.ntmps20
 go_wp2_with fail
 refine hq.mono ?_
 rintro e w2 ⟨rfl, hb2⟩
 have hX2 := HX1.out.below hb2
 have hp2 := (HPW.out.below HB1.out).below hb2
 have hww : Below w.heap.size w w2 := HB1.out.trans (hb2.mono HB1.out.size)
 have hcw := pword_any 13 0 c s x HT base P acc w2 v0 hp2.again hPb (by have := HBB.out; have := hb2.size; omega) hl
 have HWW := Lib.hid hww
 clear x0 x1 x2 x3 x4 x5 hw1 hq hb2 hp2 hww
 have x0 := hX2.cell 0 rfl
 have x1 := hX2.cell 1 rfl
 have x2 := hX2.cell 2 rfl
 have x3 := hX2.cell 3 rfl
 have x4 := hX2.cell 4 rfl
 have x5 := hX2.cell 5 rfl
 clear hX2
 go_wp2_with fail
 refine hcw.mono ?_
 rintro e w3 ⟨rfl, v3, hp3⟩
 have HE : Hid (Rd.PutP base P (acc ++ x) v0 w (.returned (.tuple #[])) w3) := ⟨rfl, v3, Rd.Pw.from HWW.out hp3⟩
 clear hcw hp3 x0 x1 x2 x3 x4 x5
 go_wp2
 refine bodyPost_ret (v := .tuple #[]) (by simp [results, Try.results20, go_sem, *]) rfl ?_
 exact HE.out
set_option maxRecDepth 100000 in
set_option maxHeartbeats 8000000 in
theorem put_short4 {F : Nat → Prop} (n : Int) (s : ByteArray) (m : List Int) (y z : Dt.D) (t : List Dt.D) (hz : Rd.PutIs z) (hW : Dt.Wf z) (hFi : Rd.Fine z) (hsh : Rd.shortL 6 [y, z] = 4) (base P : Nat) (acc : List UInt8) (v0 vm vl vt : Value) (w : World) (hR : Dt.Rep F w (.mk 6 n s m [y, z] t) vm vl vt) (hF : ∀ k, F k → k < base ∧ k ≠ P)
  (hP : Rd.Pw base P w v0 w acc v0) (hPb : P < base) (hb : base ≤ w.heap.size) (hl : acc.length + ((Tx.signL 4).length + (Rd.txt z).length) ≤ 140737488355328) :
  Calls Try.prog 20 #[.pointer (some ⟨P, 0, none⟩), .agg #[.int .i64 6, .int .i64 n, .string s, vm, vl, vt]] w (Rd.PutP base P (acc ++ (Tx.signL 4 ++ Rd.txt z)) v0 w) := by
 have hR0 := hR
 obtain ⟨b1, m1, p1, b2, m2, p2, b3, m3, p3, rfl, rfl, rfl⟩ := hR.forms
 obtain ⟨w1, hw1⟩ : ∃ w1, w.alloc (.cells #[.int .i64 6, .int .i64 n, .string s, .slice b1 m1 p1, .slice b2 m2 p2, .slice b3 m3 p3] 25) = w1 := ⟨_, rfl⟩
 obtain ⟨hb1, hs1⟩ := new_below hw1
 have hX1 := Hp.new hw1
 have hq := rdQuoted_any (.mk 6 n s m [y, z] t) _ _ _ w1 (hR.below hb1)
 rw [show Rd.shortL (Dt.D.mk 6 n s m [y, z] t).k (Dt.D.mk 6 n s m [y, z] t).l = 4 from hsh] at hq
 simp only [Dt.D.k, Dt.D.n, Dt.D.s] at hq
 obtain ⟨X, hX⟩ : ∃ X, w.heap.size = X := ⟨_, rfl⟩
 rw [hX] at hX1 hs1
 obtain ⟨sg, hsg⟩ : ∃ sg, Tx.signL 4 = sg := ⟨_, rfl⟩
 have HT := psign4
 rw [hsg] at HT hl ⊢
 have hrow := ((Dt.rep_iff _ _ _ _ _ _).1 hR).2.1
 obtain ⟨al, cl, e2, -, hcs⟩ := hrow
 cases e2
 obtain ⟨g, o, hbg, hFg, hgl, hreps⟩ := hcs (by simp [Dt.D.l])
 obtain rfl := hbg
 obtain ⟨um, ul, ut, hsix, hrz⟩ := hreps.at 1 (by simp [Dt.D.l])
 obtain ⟨d1, f1, q1, d2, f2, q2, d3, f3, q3, rfl, rfl, rfl⟩ := hrz.forms
 have HSX : Hid (Dt.Six w g (o + 6) z (.slice d1 f1 q1) (.slice d2 f2 q2) (.slice d3 f3 q3)) := hsix
 have HRZ : Hid (Dt.Rep F w z (.slice d1 f1 q1) (.slice d2 f2 q2) (.slice d3 f3 q3)) := hrz
 have HFF := Lib.hid hF
 have HFG : Hid (g < base ∧ g ≠ P ∧ g < w.heap.size) := ⟨(hF g hFg).1, (hF g hFg).2, hgl⟩
 have HZ := Lib.hid hz
 have HWZ : Hid (Dt.Wf z ∧ Rd.Fine z) := ⟨hW, hFi⟩
 have HB1 := Lib.hid hb1
 have HX1 := Lib.hid hX1
 have HPW := Lib.hid hP
 have HBB : Hid (base ≤ w1.heap.size ∧ w.heap.size = X ∧ base ≤ X) := ⟨by have := hb1.size; omega, hX, by omega⟩
 have HOW : Hid (∀ k, v0.ownBlock = some k → base ≤ k ∧ k < w.heap.size) := fun k e => hP.row.lt k e
 rw [show (Dt.D.mk 6 n s m [y, z] t).l.length = 2 from rfl] at hw1 HX1 hX1 hq ⊢
 have x0 := hX1.cell 0 rfl
 have x1 := hX1.cell 1 rfl
 have x2 := hX1.cell 2 rfl
 have x3 := hX1.cell 3 rfl
 have x4 := hX1.cell 4 rfl
 have x5 := hX1.cell 5 rfl
 clear hX1 hb1 hs1 hR hR0 hP hb hsg hcs hreps hsix hrz hF hFg hgl hz hW hFi
 go_enter Try.func20, Try.ntmps20
 go_wp2_with fail
 refine hq.mono ?_
 rintro e w2 ⟨rfl, hb2⟩
 have hX2 := HX1.out.below hb2
 have hp2 := (HPW.out.below HB1.out).below hb2
 have hww : Below w.heap.size w w2 := HB1.out.trans (hb2.mono HB1.out.size)
 have hbs2 : base ≤ w2.heap.size := by have := HBB.out; have := hb2.size; omega
 have hcw := pword_any 4 0 0 ⟨#[]⟩ sg HT base P acc w2 v0 hp2.again hPb hbs2 (by omega)
 have HWW := Lib.hid hww
 have HX2 := Lib.hid hX2
 have HBS2 := Lib.hid hbs2
 clear x0 x1 x2 x3 x4 x5 hw1 hq hb2 hp2 hww hbs2
 go_wp2_with fail
 refine hcw.mono ?_
 rintro e w3 ⟨rfl, v3, hp3⟩
 have hkw : Keep (fun k => k = P ∨ v0.ownBlock = some k) w w3 := (keep_of_below HWW.out).trans hp3.kp
 have hX3 := HX2.out.keep hp3.kp (fun e => e.elim (fun e => by have := HBB.out; omega) (fun e => by have := HOW.out X e; have := HBB.out; omega))
 have hnF : ∀ k, F k → k < w.heap.size → ¬ (k = P ∨ v0.ownBlock = some k) := fun k hk _ e => e.elim (HFF.out k hk).2 (fun e => by have := (HOW.out k e).1; have := (HFF.out k hk).1; omega)
 have hs3 := HSX.out.keep hkw HFG.out.2.2 (fun e => e.elim HFG.out.2.1 (fun e => by have := (HOW.out g e).1; have := HFG.out.1; omega))
 have hr3 := Dt.Rep.keep hkw hnF z HRZ.out
 have hcz := HZ.out F base P (acc ++ sg) v3 _ _ _ w3 HWZ.out.1 HWZ.out.2 hr3 HFF.out hp3.again hPb (by have := HBS2.out; have := hp3.kp.size; omega) (by rw [List.length_append]; omega)
 have HP3 := Lib.hid hp3
 have x4 := hX3.cell 4 rfl
 obtain ⟨y0, y1, y2, y3, y4, y5⟩ := hs3
 clear hcw hp3 hkw hX3 hnF hr3
 go_wp2_with fail
 refine hcz.mono ?_
 rintro e w4 ⟨rfl, v4, hp4⟩
 have HE : Hid (Rd.PutP base P (acc ++ (sg ++ Rd.txt z)) v0 w (.returned (.tuple #[])) w4) := ⟨rfl, v4, by rw [← List.append_assoc]; exact Rd.Pw.from HWW.out (HP3.out.trans hp4)⟩
 clear hcz hp4 x4 y0 y1 y2 y3 y4 y5
 go_wp2
 refine bodyPost_ret (v := .tuple #[]) (by simp [results, Try.results20, go_sem, *]) rfl ?_
 exact HE.out
set_option maxRecDepth 100000 in
set_option maxHeartbeats 8000000 in
theorem put_short5 {F : Nat → Prop} (n : Int) (s : ByteArray) (m : List Int) (y z : Dt.D) (t : List Dt.D) (hz : Rd.PutIs z) (hW : Dt.Wf z) (hFi : Rd.Fine z) (hsh : Rd.shortL 6 [y, z] = 5) (base P : Nat) (acc : List UInt8) (v0 vm vl vt : Value) (w : World) (hR : Dt.Rep F w (.mk 6 n s m [y, z] t) vm vl vt) (hF : ∀ k, F k → k < base ∧ k ≠ P)
  (hP : Rd.Pw base P w v0 w acc v0) (hPb : P < base) (hb : base ≤ w.heap.size) (hl : acc.length + ((Tx.signL 5).length + (Rd.txt z).length) ≤ 140737488355328) :
  Calls Try.prog 20 #[.pointer (some ⟨P, 0, none⟩), .agg #[.int .i64 6, .int .i64 n, .string s, vm, vl, vt]] w (Rd.PutP base P (acc ++ (Tx.signL 5 ++ Rd.txt z)) v0 w) := by
 have hR0 := hR
 obtain ⟨b1, m1, p1, b2, m2, p2, b3, m3, p3, rfl, rfl, rfl⟩ := hR.forms
 obtain ⟨w1, hw1⟩ : ∃ w1, w.alloc (.cells #[.int .i64 6, .int .i64 n, .string s, .slice b1 m1 p1, .slice b2 m2 p2, .slice b3 m3 p3] 25) = w1 := ⟨_, rfl⟩
 obtain ⟨hb1, hs1⟩ := new_below hw1
 have hX1 := Hp.new hw1
 have hq := rdQuoted_any (.mk 6 n s m [y, z] t) _ _ _ w1 (hR.below hb1)
 rw [show Rd.shortL (Dt.D.mk 6 n s m [y, z] t).k (Dt.D.mk 6 n s m [y, z] t).l = 5 from hsh] at hq
 simp only [Dt.D.k, Dt.D.n, Dt.D.s] at hq
 obtain ⟨X, hX⟩ : ∃ X, w.heap.size = X := ⟨_, rfl⟩
 rw [hX] at hX1 hs1
 obtain ⟨sg, hsg⟩ : ∃ sg, Tx.signL 5 = sg := ⟨_, rfl⟩
 have HT := psign5
 rw [hsg] at HT hl ⊢
 have hrow := ((Dt.rep_iff _ _ _ _ _ _).1 hR).2.1
 obtain ⟨al, cl, e2, -, hcs⟩ := hrow
 cases e2
 obtain ⟨g, o, hbg, hFg, hgl, hreps⟩ := hcs (by simp [Dt.D.l])
 obtain rfl := hbg
 obtain ⟨um, ul, ut, hsix, hrz⟩ := hreps.at 1 (by simp [Dt.D.l])
 obtain ⟨d1, f1, q1, d2, f2, q2, d3, f3, q3, rfl, rfl, rfl⟩ := hrz.forms
 have HSX : Hid (Dt.Six w g (o + 6) z (.slice d1 f1 q1) (.slice d2 f2 q2) (.slice d3 f3 q3)) := hsix
 have HRZ : Hid (Dt.Rep F w z (.slice d1 f1 q1) (.slice d2 f2 q2) (.slice d3 f3 q3)) := hrz
 have HFF := Lib.hid hF
 have HFG : Hid (g < base ∧ g ≠ P ∧ g < w.heap.size) := ⟨(hF g hFg).1, (hF g hFg).2, hgl⟩
 have HZ := Lib.hid hz
 have HWZ : Hid (Dt.Wf z ∧ Rd.Fine z) := ⟨hW, hFi⟩
 have HB1 := Lib.hid hb1
 have HX1 := Lib.hid hX1
 have HPW := Lib.hid hP
 have HBB : Hid (base ≤ w1.heap.size ∧ w.heap.size = X ∧ base ≤ X) := ⟨by have := hb1.size; omega, hX, by omega⟩
 have HOW : Hid (∀ k, v0.ownBlock = some k → base ≤ k ∧ k < w.heap.size) := fun k e => hP.row.lt k e
 rw [show (Dt.D.mk 6 n s m [y, z] t).l.length = 2 from rfl] at hw1 HX1 hX1 hq ⊢
 have x0 := hX1.cell 0 rfl
 have x1 := hX1.cell 1 rfl
 have x2 := hX1.cell 2 rfl
 have x3 := hX1.cell 3 rfl
 have x4 := hX1.cell 4 rfl
 have x5 := hX1.cell 5 rfl
 clear hX1 hb1 hs1 hR hR0 hP hb hsg hcs hreps hsix hrz hF hFg hgl hz hW hFi
 go_enter Try.func20, Try.ntmps20
 go_wp2_with fail
 refine hq.mono ?_
 rintro e w2 ⟨rfl, hb2⟩
 have hX2 := HX1.out.below hb2
 have hp2 := (HPW.out.below HB1.out).below hb2
 have hww : Below w.heap.size w w2 := HB1.out.trans (hb2.mono HB1.out.size)
 have hbs2 : base ≤ w2.heap.size := by have := HBB.out; have := hb2.size; omega
 have hcw := pword_any 5 0 0 ⟨#[]⟩ sg HT base P acc w2 v0 hp2.again hPb hbs2 (by omega)
 have HWW := Lib.hid hww
 have HX2 := Lib.hid hX2
 have HBS2 := Lib.hid hbs2
 clear x0 x1 x2 x3 x4 x5 hw1 hq hb2 hp2 hww hbs2
 go_wp2_with fail
 refine hcw.mono ?_
 rintro e w3 ⟨rfl, v3, hp3⟩
 have hkw : Keep (fun k => k = P ∨ v0.ownBlock = some k) w w3 := (keep_of_below HWW.out).trans hp3.kp
 have hX3 := HX2.out.keep hp3.kp (fun e => e.elim (fun e => by have := HBB.out; omega) (fun e => by have := HOW.out X e; have := HBB.out; omega))
 have hnF : ∀ k, F k → k < w.heap.size → ¬ (k = P ∨ v0.ownBlock = some k) := fun k hk _ e => e.elim (HFF.out k hk).2 (fun e => by have := (HOW.out k e).1; have := (HFF.out k hk).1; omega)
 have hs3 := HSX.out.keep hkw HFG.out.2.2 (fun e => e.elim HFG.out.2.1 (fun e => by have := (HOW.out g e).1; have := HFG.out.1; omega))
 have hr3 := Dt.Rep.keep hkw hnF z HRZ.out
 have hcz := HZ.out F base P (acc ++ sg) v3 _ _ _ w3 HWZ.out.1 HWZ.out.2 hr3 HFF.out hp3.again hPb (by have := HBS2.out; have := hp3.kp.size; omega) (by rw [List.length_append]; omega)
 have HP3 := Lib.hid hp3
 have x4 := hX3.cell 4 rfl
 obtain ⟨y0, y1, y2, y3, y4, y5⟩ := hs3
 clear hcw hp3 hkw hX3 hnF hr3
 go_wp2_with fail
 refine hcz.mono ?_
 rintro e w4 ⟨rfl, v4, hp4⟩
 have HE : Hid (Rd.PutP base P (acc ++ (sg ++ Rd.txt z)) v0 w (.returned (.tuple #[])) w4) := ⟨rfl, v4, by rw [← List.append_assoc]; exact Rd.Pw.from HWW.out (HP3.out.trans hp4)⟩
 clear hcz hp4 x4 y0 y1 y2 y3 y4 y5
 go_wp2
 refine bodyPost_ret (v := .tuple #[]) (by simp [results, Try.results20, go_sem, *]) rfl ?_
 exact HE.out
set_option maxRecDepth 100000 in
set_option maxHeartbeats 8000000 in
theorem put_short6 {F : Nat → Prop} (n : Int) (s : ByteArray) (m : List Int) (y z : Dt.D) (t : List Dt.D) (hz : Rd.PutIs z) (hW : Dt.Wf z) (hFi : Rd.Fine z) (hsh : Rd.shortL 6 [y, z] = 6) (base P : Nat) (acc : List UInt8) (v0 vm vl vt : Value) (w : World) (hR : Dt.Rep F w (.mk 6 n s m [y, z] t) vm vl vt) (hF : ∀ k, F k → k < base ∧ k ≠ P)
  (hP : Rd.Pw base P w v0 w acc v0) (hPb : P < base) (hb : base ≤ w.heap.size) (hl : acc.length + ((Tx.signL 6).length + (Rd.txt z).length) ≤ 140737488355328) :
  Calls Try.prog 20 #[.pointer (some ⟨P, 0, none⟩), .agg #[.int .i64 6, .int .i64 n, .string s, vm, vl, vt]] w (Rd.PutP base P (acc ++ (Tx.signL 6 ++ Rd.txt z)) v0 w) := by
 have hR0 := hR
 obtain ⟨b1, m1, p1, b2, m2, p2, b3, m3, p3, rfl, rfl, rfl⟩ := hR.forms
 obtain ⟨w1, hw1⟩ : ∃ w1, w.alloc (.cells #[.int .i64 6, .int .i64 n, .string s, .slice b1 m1 p1, .slice b2 m2 p2, .slice b3 m3 p3] 25) = w1 := ⟨_, rfl⟩
 obtain ⟨hb1, hs1⟩ := new_below hw1
 have hX1 := Hp.new hw1
 have hq := rdQuoted_any (.mk 6 n s m [y, z] t) _ _ _ w1 (hR.below hb1)
 rw [show Rd.shortL (Dt.D.mk 6 n s m [y, z] t).k (Dt.D.mk 6 n s m [y, z] t).l = 6 from hsh] at hq
 simp only [Dt.D.k, Dt.D.n, Dt.D.s] at hq
 obtain ⟨X, hX⟩ : ∃ X, w.heap.size = X := ⟨_, rfl⟩
 rw [hX] at hX1 hs1
 obtain ⟨sg, hsg⟩ : ∃ sg, Tx.signL 6 = sg := ⟨_, rfl⟩
 have HT := psign6
 rw [hsg] at HT hl ⊢
 have hrow := ((Dt.rep_iff _ _ _ _ _ _).1 hR).2.1
 obtain ⟨al, cl, e2, -, hcs⟩ := hrow
 cases e2
 obtain ⟨g, o, hbg, hFg, hgl, hreps⟩ := hcs (by simp [Dt.D.l])
 obtain rfl := hbg
 obtain ⟨um, ul, ut, hsix, hrz⟩ := hreps.at 1 (by simp [Dt.D.l])
 obtain ⟨d1, f1, q1, d2, f2, q2, d3, f3, q3, rfl, rfl, rfl⟩ := hrz.forms
 have HSX : Hid (Dt.Six w g (o + 6) z (.slice d1 f1 q1) (.slice d2 f2 q2) (.slice d3 f3 q3)) := hsix
 have HRZ : Hid (Dt.Rep F w z (.slice d1 f1 q1) (.slice d2 f2 q2) (.slice d3 f3 q3)) := hrz
 have HFF := Lib.hid hF
 have HFG : Hid (g < base ∧ g ≠ P ∧ g < w.heap.size) := ⟨(hF g hFg).1, (hF g hFg).2, hgl⟩
 have HZ := Lib.hid hz
 have HWZ : Hid (Dt.Wf z ∧ Rd.Fine z) := ⟨hW, hFi⟩
 have HB1 := Lib.hid hb1
 have HX1 := Lib.hid hX1
 have HPW := Lib.hid hP
 have HBB : Hid (base ≤ w1.heap.size ∧ w.heap.size = X ∧ base ≤ X) := ⟨by have := hb1.size; omega, hX, by omega⟩
 have HOW : Hid (∀ k, v0.ownBlock = some k → base ≤ k ∧ k < w.heap.size) := fun k e => hP.row.lt k e
 rw [show (Dt.D.mk 6 n s m [y, z] t).l.length = 2 from rfl] at hw1 HX1 hX1 hq ⊢
 have x0 := hX1.cell 0 rfl
 have x1 := hX1.cell 1 rfl
 have x2 := hX1.cell 2 rfl
 have x3 := hX1.cell 3 rfl
 have x4 := hX1.cell 4 rfl
 have x5 := hX1.cell 5 rfl
 clear hX1 hb1 hs1 hR hR0 hP hb hsg hcs hreps hsix hrz hF hFg hgl hz hW hFi
 go_enter Try.func20, Try.ntmps20
 go_wp2_with fail
 refine hq.mono ?_
 rintro e w2 ⟨rfl, hb2⟩
 have hX2 := HX1.out.below hb2
 have hp2 := (HPW.out.below HB1.out).below hb2
 have hww : Below w.heap.size w w2 := HB1.out.trans (hb2.mono HB1.out.size)
 have hbs2 : base ≤ w2.heap.size := by have := HBB.out; have := hb2.size; omega
 have hcw := pword_any 6 0 0 ⟨#[]⟩ sg HT base P acc w2 v0 hp2.again hPb hbs2 (by omega)
 have HWW := Lib.hid hww
 have HX2 := Lib.hid hX2
 have HBS2 := Lib.hid hbs2
 clear x0 x1 x2 x3 x4 x5 hw1 hq hb2 hp2 hww hbs2
 go_wp2_with fail
 refine hcw.mono ?_
 rintro e w3 ⟨rfl, v3, hp3⟩
 have hkw : Keep (fun k => k = P ∨ v0.ownBlock = some k) w w3 := (keep_of_below HWW.out).trans hp3.kp
 have hX3 := HX2.out.keep hp3.kp (fun e => e.elim (fun e => by have := HBB.out; omega) (fun e => by have := HOW.out X e; have := HBB.out; omega))
 have hnF : ∀ k, F k → k < w.heap.size → ¬ (k = P ∨ v0.ownBlock = some k) := fun k hk _ e => e.elim (HFF.out k hk).2 (fun e => by have := (HOW.out k e).1; have := (HFF.out k hk).1; omega)
 have hs3 := HSX.out.keep hkw HFG.out.2.2 (fun e => e.elim HFG.out.2.1 (fun e => by have := (HOW.out g e).1; have := HFG.out.1; omega))
 have hr3 := Dt.Rep.keep hkw hnF z HRZ.out
 have hcz := HZ.out F base P (acc ++ sg) v3 _ _ _ w3 HWZ.out.1 HWZ.out.2 hr3 HFF.out hp3.again hPb (by have := HBS2.out; have := hp3.kp.size; omega) (by rw [List.length_append]; omega)
 have HP3 := Lib.hid hp3
 have x4 := hX3.cell 4 rfl
 obtain ⟨y0, y1, y2, y3, y4, y5⟩ := hs3
 clear hcw hp3 hkw hX3 hnF hr3
 go_wp2_with fail
 refine hcz.mono ?_
 rintro e w4 ⟨rfl, v4, hp4⟩
 have HE : Hid (Rd.PutP base P (acc ++ (sg ++ Rd.txt z)) v0 w (.returned (.tuple #[])) w4) := ⟨rfl, v4, by rw [← List.append_assoc]; exact Rd.Pw.from HWW.out (HP3.out.trans hp4)⟩
 clear hcz hp4 x4 y0 y1 y2 y3 y4 y5
 go_wp2
 refine bodyPost_ret (v := .tuple #[]) (by simp [results, Try.results20, go_sem, *]) rfl ?_
 exact HE.out
set_option maxRecDepth 100000 in
set_option maxHeartbeats 8000000 in
theorem put_short7 {F : Nat → Prop} (n : Int) (s : ByteArray) (m : List Int) (y z : Dt.D) (t : List Dt.D) (hz : Rd.PutIs z) (hW : Dt.Wf z) (hFi : Rd.Fine z) (hsh : Rd.shortL 6 [y, z] = 7) (base P : Nat) (acc : List UInt8) (v0 vm vl vt : Value) (w : World) (hR : Dt.Rep F w (.mk 6 n s m [y, z] t) vm vl vt) (hF : ∀ k, F k → k < base ∧ k ≠ P)
  (hP : Rd.Pw base P w v0 w acc v0) (hPb : P < base) (hb : base ≤ w.heap.size) (hl : acc.length + ((Tx.signL 7).length + (Rd.txt z).length) ≤ 140737488355328) :
  Calls Try.prog 20 #[.pointer (some ⟨P, 0, none⟩), .agg #[.int .i64 6, .int .i64 n, .string s, vm, vl, vt]] w (Rd.PutP base P (acc ++ (Tx.signL 7 ++ Rd.txt z)) v0 w) := by
 have hR0 := hR
 obtain ⟨b1, m1, p1, b2, m2, p2, b3, m3, p3, rfl, rfl, rfl⟩ := hR.forms
 obtain ⟨w1, hw1⟩ : ∃ w1, w.alloc (.cells #[.int .i64 6, .int .i64 n, .string s, .slice b1 m1 p1, .slice b2 m2 p2, .slice b3 m3 p3] 25) = w1 := ⟨_, rfl⟩
 obtain ⟨hb1, hs1⟩ := new_below hw1
 have hX1 := Hp.new hw1
 have hq := rdQuoted_any (.mk 6 n s m [y, z] t) _ _ _ w1 (hR.below hb1)
 rw [show Rd.shortL (Dt.D.mk 6 n s m [y, z] t).k (Dt.D.mk 6 n s m [y, z] t).l = 7 from hsh] at hq
 simp only [Dt.D.k, Dt.D.n, Dt.D.s] at hq
 obtain ⟨X, hX⟩ : ∃ X, w.heap.size = X := ⟨_, rfl⟩
 rw [hX] at hX1 hs1
 obtain ⟨sg, hsg⟩ : ∃ sg, Tx.signL 7 = sg := ⟨_, rfl⟩
 have HT := psign7
 rw [hsg] at HT hl ⊢
 have hrow := ((Dt.rep_iff _ _ _ _ _ _).1 hR).2.1
 obtain ⟨al, cl, e2, -, hcs⟩ := hrow
 cases e2
 obtain ⟨g, o, hbg, hFg, hgl, hreps⟩ := hcs (by simp [Dt.D.l])
 obtain rfl := hbg
 obtain ⟨um, ul, ut, hsix, hrz⟩ := hreps.at 1 (by simp [Dt.D.l])
 obtain ⟨d1, f1, q1, d2, f2, q2, d3, f3, q3, rfl, rfl, rfl⟩ := hrz.forms
 have HSX : Hid (Dt.Six w g (o + 6) z (.slice d1 f1 q1) (.slice d2 f2 q2) (.slice d3 f3 q3)) := hsix
 have HRZ : Hid (Dt.Rep F w z (.slice d1 f1 q1) (.slice d2 f2 q2) (.slice d3 f3 q3)) := hrz
 have HFF := Lib.hid hF
 have HFG : Hid (g < base ∧ g ≠ P ∧ g < w.heap.size) := ⟨(hF g hFg).1, (hF g hFg).2, hgl⟩
 have HZ := Lib.hid hz
 have HWZ : Hid (Dt.Wf z ∧ Rd.Fine z) := ⟨hW, hFi⟩
 have HB1 := Lib.hid hb1
 have HX1 := Lib.hid hX1
 have HPW := Lib.hid hP
 have HBB : Hid (base ≤ w1.heap.size ∧ w.heap.size = X ∧ base ≤ X) := ⟨by have := hb1.size; omega, hX, by omega⟩
 have HOW : Hid (∀ k, v0.ownBlock = some k → base ≤ k ∧ k < w.heap.size) := fun k e => hP.row.lt k e
 rw [show (Dt.D.mk 6 n s m [y, z] t).l.length = 2 from rfl] at hw1 HX1 hX1 hq ⊢
 have x0 := hX1.cell 0 rfl
 have x1 := hX1.cell 1 rfl
 have x2 := hX1.cell 2 rfl
 have x3 := hX1.cell 3 rfl
 have x4 := hX1.cell 4 rfl
 have x5 := hX1.cell 5 rfl
 clear hX1 hb1 hs1 hR hR0 hP hb hsg hcs hreps hsix hrz hF hFg hgl hz hW hFi
 go_enter Try.func20, Try.ntmps20
 go_wp2_with fail
 refine hq.mono ?_
 rintro e w2 ⟨rfl, hb2⟩
 have hX2 := HX1.out.below hb2
 have hp2 := (HPW.out.below HB1.out).below hb2
 have hww : Below w.heap.size w w2 := HB1.out.trans (hb2.mono HB1.out.size)
 have hbs2 : base ≤ w2.heap.size := by have := HBB.out; have := hb2.size; omega
 have hcw := pword_any 7 0 0 ⟨#[]⟩ sg HT base P acc w2 v0 hp2.again hPb hbs2 (by omega)
 have HWW := Lib.hid hww
 have HX2 := Lib.hid hX2
 have HBS2 := Lib.hid hbs2
 clear x0 x1 x2 x3 x4 x5 hw1 hq hb2 hp2 hww hbs2
 go_wp2_with fail
 refine hcw.mono ?_
 rintro e w3 ⟨rfl, v3, hp3⟩
 have hkw : Keep (fun k => k = P ∨ v0.ownBlock = some k) w w3 := (keep_of_below HWW.out).trans hp3.kp
 have hX3 := HX2.out.keep hp3.kp (fun e => e.elim (fun e => by have := HBB.out; omega) (fun e => by have := HOW.out X e; have := HBB.out; omega))
 have hnF : ∀ k, F k → k < w.heap.size → ¬ (k = P ∨ v0.ownBlock = some k) := fun k hk _ e => e.elim (HFF.out k hk).2 (fun e => by have := (HOW.out k e).1; have := (HFF.out k hk).1; omega)
 have hs3 := HSX.out.keep hkw HFG.out.2.2 (fun e => e.elim HFG.out.2.1 (fun e => by have := (HOW.out g e).1; have := HFG.out.1; omega))
 have hr3 := Dt.Rep.keep hkw hnF z HRZ.out
 have hcz := HZ.out F base P (acc ++ sg) v3 _ _ _ w3 HWZ.out.1 HWZ.out.2 hr3 HFF.out hp3.again hPb (by have := HBS2.out; have := hp3.kp.size; omega) (by rw [List.length_append]; omega)
 have HP3 := Lib.hid hp3
 have x4 := hX3.cell 4 rfl
 obtain ⟨y0, y1, y2, y3, y4, y5⟩ := hs3
 clear hcw hp3 hkw hX3 hnF hr3
 go_wp2_with fail
 refine hcz.mono ?_
 rintro e w4 ⟨rfl, v4, hp4⟩
 have HE : Hid (Rd.PutP base P (acc ++ (sg ++ Rd.txt z)) v0 w (.returned (.tuple #[])) w4) := ⟨rfl, v4, by rw [← List.append_assoc]; exact Rd.Pw.from HWW.out (HP3.out.trans hp4)⟩
 clear hcz hp4 x4 y0 y1 y2 y3 y4 y5
 go_wp2
 refine bodyPost_ret (v := .tuple #[]) (by simp [results, Try.results20, go_sem, *]) rfl ?_
 exact HE.out
set_option maxRecDepth 100000 in
set_option maxHeartbeats 16000000 in
theorem put_list6 {F : Nat → Prop} (n : Int) (s : ByteArray) (m : List Int) (l t : List Dt.D) (hil : ∀ x ∈ l, Rd.PutIs x ∧ Dt.Wf x ∧ Rd.Fine x) (hit : ∀ x ∈ t, Rd.PutIs x ∧ Dt.Wf x ∧ Rd.Fine x) (hsh : Rd.shortL 6 l = 0) (hln : l.length ≤ 140737488355328 ∧ t.length ≤ 140737488355328) (base P : Nat) (acc : List UInt8) (v0 vm vl vt : Value) (w : World) (hR : Dt.Rep F w (.mk 6 n s m l t) vm vl vt) (hF : ∀ k, F k → k < base ∧ k ≠ P)
  (hP : Rd.Pw base P w v0 w acc v0) (hPb : P < base) (hb : base ≤ w.heap.size) (hl : acc.length + ((Tx.signL 1 ++ Rd.txts l ++ Rd.txtt t ++ [41]).length) ≤ 140737488355328) :
  Calls Try.prog 20 #[.pointer (some ⟨P, 0, none⟩), .agg #[.int .i64 6, .int .i64 n, .string s, vm, vl, vt]] w (Rd.PutP base P (acc ++ (Tx.signL 1 ++ Rd.txts l ++ Rd.txtt t ++ [41])) v0 w) := by
 obtain ⟨b1, m1, p1, b2, m2, p2, b3, m3, p3, rfl, rfl, rfl⟩ := hR.forms
 obtain ⟨w1, hw1⟩ : ∃ w1, w.alloc (.cells #[.int .i64 6, .int .i64 n, .string s, .slice b1 m1 p1, .slice b2 m2 p2, .slice b3 m3 p3] 25) = w1 := ⟨_, rfl⟩
 obtain ⟨hb1, hs1⟩ := new_below hw1
 have hX1 := Hp.new hw1
 have hq := rdQuoted_any (.mk 6 n s m l t) _ _ _ w1 (hR.below hb1)
 rw [show Rd.shortL (Dt.D.mk 6 n s m l t).k (Dt.D.mk 6 n s m l t).l = 0 from hsh] at hq
 simp only [Dt.D.k, Dt.D.n, Dt.D.s] at hq
 obtain ⟨X, hX⟩ : ∃ X, w.heap.size = X := ⟨_, rfl⟩
 rw [hX] at hX1 hs1
 obtain ⟨sg, hsg⟩ : ∃ sg, Tx.signL 1 = sg := ⟨_, rfl⟩
 have HT := psign1
 rw [hsg] at HT hl ⊢
 simp only [List.length_append, List.length_cons, List.length_nil] at hl
 have HHL := Lib.hid hl
 obtain ⟨-, ⟨al, cl, e2, hcl, hcs⟩, ⟨at_, ct, e3, hct, hts⟩⟩ := (Dt.rep_iff _ _ _ _ _ _).1 hR
 cases e2
 cases e3
 rw [show (Dt.D.mk 6 n s m l t).l.length = l.length from rfl, show (Dt.D.mk 6 n s m l t).t.length = t.length from rfl] at hw1 hX1 hq ⊢
 obtain ⟨N, hN⟩ : ∃ N, l.length = N := ⟨_, rfl⟩
 obtain ⟨T, hT⟩ : ∃ T, t.length = T := ⟨_, rfl⟩
 rw [hN, hT] at hw1 hX1 hq ⊢
 obtain ⟨i0, hi, hz0, hz1, hz2⟩ := info_parts Cd.infoB
 have HI0 := Lib.hid hi
 have HZ0 := Lib.hid hz0
 have HZ1 := Lib.hid hz1
 have HZ2 := Lib.hid hz2
 have HCS := Lib.hid hcs
 have HTS := Lib.hid hts
 have HIL := Lib.hid hil
 have HIT := Lib.hid hit
 have HNT : Hid (l.length = N ∧ t.length = T ∧ N ≤ 140737488355328 ∧ T ≤ 140737488355328) := ⟨hN, hT, by omega, by omega⟩
 have HFF := Lib.hid hF
 have HB1 := Lib.hid hb1
 have HX1 := Lib.hid hX1
 have HP1 : Hid (Rd.Pw base P w1 v0 w1 acc v0) := (hP.below hb1).again
 have HBB : Hid (base ≤ w1.heap.size ∧ w.heap.size = X ∧ base ≤ X ∧ w1.heap.size = X + 1) := ⟨by have := hb1.size; omega, hX, by omega, hs1⟩
 have HOW : Hid (∀ k, v0.ownBlock = some k → base ≤ k ∧ k < w.heap.size) := fun k e => hP.row.lt k e
 have HNF : Hid (∀ W, Keep (fun k => k = P ∨ v0.ownBlock = some k) w1 W → Hp W X #[.int .i64 6, .int .i64 n, .string s, .slice b1 m1 p1, .slice b2 N p2, .slice b3 T p3] 25 ∧ (∀ (g o : Nat) (x : Dt.D) (um ul ut : Value), F g → g < w.heap.size → Dt.Six w g o x um ul ut → Dt.Six W g o x um ul ut) ∧ (∀ (x : Dt.D) (um ul ut : Value), Dt.Rep F w x um ul ut → Dt.Rep F W x um ul ut)) := fun W hk => by
  have hkw : Keep (fun k => k = P ∨ v0.ownBlock = some k) w W := (keep_of_below hb1).trans hk
  refine ⟨hX1.keep hk (fun e => e.elim (fun e => by omega) (fun e => by have := hP.row.lt X e; omega)), fun g o x um ul ut hg hgl h => h.keep hkw hgl (fun e => e.elim (hF g hg).2 (fun e => by have := (hP.row.lt g e).1; have := (hF g hg).1; omega)), fun x um ul ut h => Dt.Rep.keep hkw (fun k hk _ e => e.elim (hF k hk).2 (fun e => by have := (hP.row.lt k e).1; have := (hF k hk).1; omega)) x h⟩
 have x0 := hX1.cell 0 rfl
 have x1 := hX1.cell 1 rfl
 have x2 := hX1.cell 2 rfl
 have x3 := hX1.cell 3 rfl
 have x4 := hX1.cell 4 rfl
 have x5 := hX1.cell 5 rfl
 clear hX1 hb1 hs1 hR hP hb hsg hcs hts hF hil hit hln hl hi hz0 hz1 hz2 hcl hct hN hT
 go_enter Try.func20, Try.ntmps20
 go_wp2_with fail
 refine hq.mono ?_
 rintro e w2 ⟨rfl, hb2⟩
 have hp2 := HP1.out.below hb2
 obtain ⟨hX2, -, -⟩ := HNF.out w2 hp2.kp
 have hcw := pword_any 1 0 0 ⟨#[]⟩ sg HT base P acc w2 v0 hp2.again hPb (by have := HBB.out; have := hb2.size; omega) (by have := HHL.out; omega)
 have HP2 := Lib.hid hp2
 clear x0 x1 x2 x3 x4 x5 hw1 hq hb2 hp2
 have x0 := hX2.cell 0 rfl
 have x1 := hX2.cell 1 rfl
 have x2 := hX2.cell 2 rfl
 have x3 := hX2.cell 3 rfl
 have x4 := hX2.cell 4 rfl
 have x5 := hX2.cell 5 rfl
 clear hX2
 go_wp2_with fail
 refine hcw.mono ?_
 rintro e w3 ⟨rfl, v3, hp3⟩
 have hp3' := HP2.out.trans hp3
 obtain ⟨hX3, -, -⟩ := HNF.out w3 hp3'.kp
 have HP3 : Hid (Rd.Pw base P w1 v0 w3 (acc ++ sg ++ Rd.txts (l.take 0)) v3) := by
  show Rd.Pw _ _ _ _ _ _ _
  rw [List.take_zero, Rd.txts, List.append_nil]
  exact hp3'
 clear x0 x1 x2 x3 x4 x5 hcw hp3 hp3'
 have x4 := hX3.cell 4 rfl
 clear hX3
 go_wp2
 go_loopw [34] (fun vi wr => ∃ (j : Nat) (vj : Value), vi = .int .i64 j ∧ j ≤ N ∧ Hid (Rd.Pw base P w1 v0 wr (acc ++ sg ++ Rd.txts (l.take j)) vj)) (fun vi _ => N - (intOf vi).toNat)
 case atStart => exact ⟨0, v3, rfl, by omega, HP3⟩
 case round =>
  clear HP3 HP2
  obtain ⟨j, vj, rfl, hj, HPJ⟩ := hrel
  by_cases hlt : j < N
  ·have hlti : (j : Int) < (N : Int) := by omega
   have HJW : Hid (wrap64 ((j : Int) + 1) = (j : Int) + 1) := by have := HNT.out; show _ = _; unfold wrap64; omega
   have hjl : j < l.length := by have := HNT.out; omega
   obtain ⟨g, o, rfl, hFg, hgl, hreps⟩ := HCS.out (by intro e; have e' : l = [] := e; rw [e'] at hjl; exact absurd hjl (by simp))
   obtain ⟨um, ul, ut, hsix, hrz⟩ := hreps.at j hjl
   obtain ⟨d1, f1, q1, d2, f2, q2, d3, f3, q3, rfl, rfl, rfl⟩ := hrz.forms
   obtain ⟨z, hz⟩ : ∃ z, l[j] = z := ⟨_, rfl⟩
   have HTK : Hid (Rd.txts (l.take (j + 1)) = Rd.txts (l.take j) ++ (if j = 0 then [] else [32]) ++ Rd.txt z) := by show _ = _; rw [Rd.txts_take l j hjl, hz]
   have HIZ := Lib.hid (HIL.out l[j] (List.getElem_mem hjl))
   have hrz' : Dt.Rep F w z (.slice d1 f1 q1) (.slice d2 f2 q2) (.slice d3 f3 q3) := by rw [← hz]; exact hrz
   have hsix' : Dt.Six w g (o + j * 6) z (.slice d1 f1 q1) (.slice d2 f2 q2) (.slice d3 f3 q3) := by rw [← hz]; exact hsix
   rw [hz] at HIZ
   have HLE : Hid ((Rd.txts (l.take (j + 1))).length ≤ (Rd.txts l).length) := Rd.txts_le l (j + 1)
   have HRZ := Lib.hid hrz'
   obtain ⟨-, hsx, -⟩ := HNF.out wr HPJ.out.kp
   obtain ⟨y0, y1, y2, y3, y4, y5⟩ := hsx g (o + j * 6) z _ _ _ hFg hgl hsix'
   obtain ⟨w4, hw4⟩ : ∃ w4, wr.alloc (.cells #[.int .i64 z.k, .int .i64 z.n, .string z.s, .slice d1 f1 q1, .slice d2 f2 q2, .slice d3 f3 q3] 25) = w4 := ⟨_, rfl⟩
   obtain ⟨hb4, hs4⟩ := new_below hw4
   have hZ4 := Hp.new hw4
   have HZ4 := Lib.hid hZ4
   have hp4 := HPJ.out.below hb4
   have HP4 := Lib.hid hp4
   have HZN : Hid (Hp w4 wr.heap.size #[.int .i64 z.k, .int .i64 z.n, .string z.s, .slice d1 f1 q1, .slice d2 f2 q2, .slice d3 f3 q3] 25 ∧ (∀ k, vj.ownBlock = some k → base ≤ k ∧ k < wr.heap.size) ∧ w1.heap.size ≤ wr.heap.size) := ⟨hZ4, fun k e => HPJ.out.row.lt k e, HPJ.out.kp.size⟩
   obtain ⟨ZB, hZB⟩ : ∃ ZB, wr.heap.size = ZB := ⟨_, rfl⟩
   rw [hZB] at HZN HZ4 hZ4
   have hbs4 : base ≤ w4.heap.size := by have := HZN.out.2.2; have := HBB.out; omega
   have HBS4 := Lib.hid hbs4
   clear hsix hrz hrz' hsix' hreps hsx hz hb4 hs4 hjl
   by_cases hj0 : j = 0
   ·subst hj0
    have hc := HIZ.out.1 F base P (acc ++ sg ++ Rd.txts (l.take 0)) vj _ _ _ w4 HIZ.out.2.1 HIZ.out.2.2 ((HNF.out w4 HP4.out.kp).2.2 z _ _ _ HRZ.out) HFF.out hp4.again hPb hbs4 (by have h1 := HTK.out; have h2 := HLE.out; have h3 := HHL.out; rw [h1] at h2; simp only [List.length_append] at h2 ⊢; omega)
    have z0 := hZ4.cell 0 rfl
    have z1 := hZ4.cell 1 rfl
    have z2 := hZ4.cell 2 rfl
    have z3 := hZ4.cell 3 rfl
    have z4 := hZ4.cell 4 rfl
    have z5 := hZ4.cell 5 rfl
    simp only [Nat.zero_mul, Nat.add_zero] at y0 y1 y2 y3 y4 y5
    clear hZ4 hp4 hbs4
    go_wp2_with fail
    refine hc.mono ?_
    rintro e w5 ⟨rfl, v5, hp5⟩
    have HN5 : Hid (Rd.Pw base P w1 v0 w5 (acc ++ sg ++ Rd.txts (l.take 1)) v5) := by
     have := HP4.out.trans hp5
     have h1 := HTK.out
     simp only [Nat.zero_add, if_pos] at h1
     show Rd.Pw _ _ _ _ _ _ _
     rw [h1, List.append_nil, ← List.append_assoc]
     exact this
    clear hc hp5 z0 z1 z2 z3 z4 z5 y0 y1 y2 y3 y4 y5 hw4
    go_wp2
    go_roundw
    case rel => exact ⟨1, v5, by simp, by omega, HN5⟩
    case measure => simp [intOf]; omega
   ·have hji : (0 : Int) < (j : Int) := by omega
    have hrow4 := HP4.out.row
    obtain ⟨aj, cj, hvj⟩ := Dt.row_form hrow4
    subst hvj
    have hp40 := HP4.out.hp
    obtain ⟨w5, hw5⟩ : ∃ w5, w4.alloc (.cells #[.int .u8 32] 5) = w5 := ⟨_, rfl⟩
    obtain ⟨hb5, hs5⟩ := new_below hw5
    have hS5 := Hp.new hw5
    have hp5 := HP4.out.below hb5
    have hrow5 := hp5.row
    have hsrc5 : Ap.Src w5 (.slice (some ⟨w4.heap.size, 0, none⟩) 1 1) 1 [.int .u8 32] := .inr ⟨_, _, rfl, fun q u hu => by
     rw [Addr.add_mid, Nat.zero_add]
     exact hS5.cell q (by rw [← hu]; simp)⟩
    have hbs5 : base ≤ w5.heap.size := by have := hb5.size; omega
    have p0 := hp40.cell 0 rfl
    have HP5 := Lib.hid hp5
    have hlen : (acc ++ sg ++ Rd.txts (l.take j)).length + 1 ≤ 140737488355328 := by have h1 := HTK.out; have h2 := HLE.out; have h3 := HHL.out; rw [h1, if_neg hj0] at h2; simp only [List.length_append, List.length_cons, List.length_nil] at h2 ⊢; omega
    obtain ⟨AC, hAC⟩ : ∃ AC, acc ++ sg ++ Rd.txts (l.take j) = AC := ⟨_, rfl⟩
    rw [hAC] at hrow5 hlen HP5 HP4 HPJ
    have HAC := Lib.hid hAC
    have hZ5 := HZ4.out.below hb5
    have HZ5 := Lib.hid hZ5
    clear hp40 hb5 hs5 hS5 hp5 hZ4 hp4 hbs4 hZ5 hrow4
    go_wp2_with (at_builtin; refine Ap.list rfl _ _ 53 rfl base 5 i0 (.int .u8 0) 1 1 Try.underlying53 HI0.out HZ0.out HZ1.out HZ2.out rfl (by decide) _ AC.length _ rfl hrow5 (.slice (some ⟨w4.heap.size, 0, none⟩) 1 1) 1 [.int .u8 32] rfl hsrc5 rfl (by intro u hu; simp at hu; subst hu; rfl) (by unfold maxLen; omega) (by omega) hbs5 ?_)
    intro v6 w6 hown6 hgr6 hat6
    obtain ⟨a6, c6, rfl⟩ := Dt.row_form hown6
    obtain ⟨g1, g2⟩ := Rd.Pw.push (x := [32]) HP5.out.hp HP5.out.row hPb hbs5 hown6 hgr6 hat6
    have p1 := g2.cell 0 rfl
    have f1 := g2.frz 0
    obtain ⟨w7, hw7⟩ : ∃ w7, w6.setCell ⟨P, 0, none⟩ (.slice a6 (AC.length + 1) c6) = w7 := ⟨_, rfl⟩
    have g1' : Rd.Pw base P w5 (.slice aj AC.length cj) w7 (AC ++ [32]) (.slice a6 (AC.length + 1) c6) := by rw [← hw7]; exact g1
    have hp7 := HP5.out.trans g1'
    have hZ7 := HZ5.out.keep g1'.kp (fun e => e.elim (fun e => by have := HZN.out.2.2; have := HBB.out; omega) (fun e => by have := HZN.out.2.1 ZB (by rw [← hAC] at e; exact e); omega))
    have hc := HIZ.out.1 F base P (AC ++ [32]) _ _ _ _ w7 HIZ.out.2.1 HIZ.out.2.2 ((HNF.out w7 hp7.kp).2.2 z _ _ _ HRZ.out) HFF.out hp7.again hPb (by have := g1'.kp.size; omega) (by have h1 := HTK.out; have h2 := HLE.out; have h3 := HHL.out; rw [h1, if_neg hj0] at h2; have h4 := congrArg List.length HAC.out; simp only [List.length_append, List.length_cons, List.length_nil] at h2 h4 ⊢; omega)
    have HP7 := Lib.hid hp7
    have z0 := hZ7.cell 0 rfl
    have z1 := hZ7.cell 1 rfl
    have z2 := hZ7.cell 2 rfl
    have z3 := hZ7.cell 3 rfl
    have z4 := hZ7.cell 4 rfl
    have z5 := hZ7.cell 5 rfl
    clear hown6 hgr6 hat6 g1 g2 g1' hp7 hZ7 hlen hbs5 hsrc5 hrow5 y0 y1 y2 y3 y4 y5 p0 hw4 hw5
    go_wp2_with fail
    refine hc.mono ?_
    rintro e w8 ⟨rfl, v8, hp8⟩
    have HN8 : Hid (Rd.Pw base P w1 v0 w8 (acc ++ sg ++ Rd.txts (l.take (j + 1))) v8) := by
     have := HP7.out.trans hp8
     show Rd.Pw _ _ _ _ _ _ _
     rw [HTK.out, if_neg hj0, ← List.append_assoc, ← List.append_assoc, HAC.out]
     exact this
    clear hc hp8 z0 z1 z2 z3 z4 z5 hw7 p1 f1
    go_wp2
    go_roundw
    case rel => exact ⟨j + 1, v8, by rw [HJW.out]; simp, by omega, HN8⟩
    case measure => rw [HJW.out]; simp [intOf]; omega
  ·have hge : (N : Int) ≤ (j : Int) := by omega
   have hpj := HPJ.out
   rw [List.take_of_length_le (by have := HNT.out; omega)] at hpj
   obtain ⟨AC, hAC⟩ : ∃ AC, acc ++ sg ++ Rd.txts l = AC := ⟨_, rfl⟩
   rw [hAC] at hpj
   have HAC := Lib.hid hAC
   have hbsr : base ≤ wr.heap.size := by have := hpj.kp.size; have := HBB.out; omega
   obtain ⟨hXr, -, -⟩ := HNF.out wr hpj.kp
   have x5 := hXr.cell 5 rfl
   clear hAC HPJ
   by_cases hT0 : T = 0
   ·subst hT0
    obtain rfl : t = [] := List.eq_nil_of_length_eq_zero HNT.out.2.1
    have hcw := pword_any 2 0 0 ⟨#[]⟩ [41] psign2 base P AC wr vj hpj.again hPb hbsr (by have h3 := HHL.out; have h4 := congrArg List.length HAC.out; simp only [List.length_append, List.length_cons, List.length_nil] at h4 ⊢; omega)
    have HPJ := Lib.hid hpj
    clear hXr hpj hbsr
    go_wp2_with fail
    refine hcw.mono ?_
    rintro e w9 ⟨rfl, v9, hp9⟩
    have HE : Hid (Rd.PutP base P (acc ++ (sg ++ Rd.txts l ++ Rd.txtt [] ++ [41])) v0 w (.returned (.tuple #[])) w9) := ⟨rfl, v9, by
     rw [Rd.txtt, List.append_nil, ← List.append_assoc, ← List.append_assoc, HAC.out]
     exact Rd.Pw.from HB1.out (HPJ.out.trans hp9)⟩
    clear hcw hp9 x5
    go_wp2
    refine bodyPost_ret (v := .tuple #[]) (by simp [results, Try.results20, go_sem, *]) rfl ?_
    exact HE.out
   ·have hTi : (0 : Int) < (T : Int) := by omega
    obtain ⟨d0, tr, rfl⟩ : ∃ d0 tr, t = d0 :: tr := by
     cases t with
     | nil => exact absurd HNT.out.2.1.symm hT0
     | cons d0 tr => exact ⟨d0, tr, rfl⟩
    obtain ⟨g, o, rfl, hFg, hgl, hreps⟩ := HTS.out (by simp [Dt.D.t])
    obtain ⟨um, ul, ut, hsix, hrz⟩ := hreps.at 0 (by simp [Dt.D.t])
    obtain ⟨d1, f1, q1, d2, f2, q2, d3, f3, q3, rfl, rfl, rfl⟩ := hrz.forms
    rw [Nat.zero_mul, Nat.add_zero] at hsix
    have hsix' : Dt.Six w g o d0 (.slice d1 f1 q1) (.slice d2 f2 q2) (.slice d3 f3 q3) := hsix
    have HRZ : Hid (Dt.Rep F w d0 (.slice d1 f1 q1) (.slice d2 f2 q2) (.slice d3 f3 q3)) := hrz
    have HSX := Lib.hid hsix'
    have HIZ := Lib.hid (HIT.out d0 (List.mem_cons_self))
    have HFG : Hid (F g ∧ g < w.heap.size) := ⟨hFg, hgl⟩
    have hrowr := hpj.row
    have hpr := hpj.hp
    obtain ⟨aj, cj, hvj⟩ := Dt.row_form hrowr
    subst hvj
    have p0 := hpr.cell 0 rfl
    have HPJ := Lib.hid hpj
    have hlen : AC.length + 3 ≤ 140737488355328 := by have h3 := HHL.out; have h4 := congrArg List.length HAC.out; rw [Rd.txtt] at h3; simp only [List.length_append, List.length_cons] at h3 h4 ⊢; omega
    have h3s : (⟨#[32, 46, 32]⟩ : ByteArray).size = 3 := rfl
    clear hXr hpj hsix hrz hsix' hreps hpr hFg hgl
    go_wp2_with (at_builtin; refine Ap.strList rfl _ _ 53 9 rfl base 5 i0 Try.underlying53 Try.underlying9 HI0.out HZ0.out HZ1.out HZ2.out _ _ _ rfl hrowr ⟨#[32, 46, 32]⟩ rfl (by rw [h3s]; unfold maxLen; omega) (by rw [h3s]; omega) hbsr ?_)
    intro v6 w6 hown6 hgr6 hat6
    obtain ⟨a6, c6, rfl⟩ := Dt.row_form hown6
    obtain ⟨g1, g2⟩ := Rd.Pw.push (x := [32, 46, 32]) HPJ.out.hp HPJ.out.row hPb hbsr (by
     have e : Lib.strCells ⟨#[32, 46, 32]⟩ = Lib.byteCells [32, 46, 32] := by rw [Lib.strCells_eq]
     rw [e] at hown6
     exact hown6) hgr6 hat6
    have p1 := g2.cell 0 rfl
    have f1 := g2.frz 0
    obtain ⟨w7, hw7⟩ : ∃ w7, w6.setCell ⟨P, 0, none⟩ (.slice a6 (AC.length + 3) c6) = w7 := ⟨_, rfl⟩
    have g1' : Rd.Pw base P wr (.slice aj AC.length cj) w7 (AC ++ [32, 46, 32]) (.slice a6 (AC.length + 3) c6) := by rw [← hw7]; exact g1
    have hp7 := HPJ.out.trans g1'
    obtain ⟨hX7, hsx7, hrp7⟩ := HNF.out w7 hp7.kp
    obtain ⟨y0, y1, y2, y3, y4, y5⟩ := hsx7 g o d0 _ _ _ HFG.out.1 HFG.out.2 HSX.out
    have x5' := hX7.cell 5 rfl
    have hc := HIZ.out.1 F base P (AC ++ [32, 46, 32]) _ _ _ _ w7 HIZ.out.2.1 HIZ.out.2.2 (hrp7 d0 _ _ _ HRZ.out) HFF.out hp7.again hPb (by have := g1'.kp.size; omega) (by have h3 := HHL.out; have h4 := congrArg List.length HAC.out; rw [Rd.txtt] at h3; simp only [List.length_append, List.length_cons, List.length_nil] at h3 h4 ⊢; omega)
    have HP7 := Lib.hid hp7
    have HS7 : Hid (base ≤ w7.heap.size) := by have := g1'.kp.size; show _ ≤ _; omega
    clear hown6 hgr6 hat6 g1 g2 g1' hp7 hX7 hsx7 hrp7 hlen hrowr hbsr p0 x5 h3s
    go_wp2_with fail
    refine hc.mono ?_
    rintro e w8 ⟨rfl, v8, hp8⟩
    have hcw := pword_any 2 0 0 ⟨#[]⟩ [41] psign2 base P (AC ++ [32, 46, 32] ++ Rd.txt d0) w8 v8 hp8.again hPb (by have := HS7.out; have := hp8.kp.size; omega) (by have h3 := HHL.out; have h4 := congrArg List.length HAC.out; rw [Rd.txtt] at h3; simp only [List.length_append, List.length_cons, List.length_nil] at h3 h4 ⊢; omega)
    have HP8 := Lib.hid (HP7.out.trans hp8)
    clear hc hp8 y0 y1 y2 y3 y4 y5 x5' hw7 p1 f1
    go_wp2_with fail
    refine hcw.mono ?_
    rintro e w9 ⟨rfl, v9, hp9⟩
    have HE : Hid (Rd.PutP base P (acc ++ (sg ++ Rd.txts l ++ Rd.txtt (d0 :: tr) ++ [41])) v0 w (.returned (.tuple #[])) w9) := ⟨rfl, v9, by
     have := Rd.Pw.from HB1.out (HP8.out.trans hp9)
     rw [← HAC.out] at this
     rw [Rd.txtt]
     simp only [List.append_assoc, List.cons_append, List.nil_append] at this ⊢
     exact this⟩
    clear hcw hp9
    go_wp2
    refine bodyPost_ret (v := .tuple #[]) (by simp [results, Try.results20, go_sem, *]) rfl ?_
    exact HE.out
set_option maxRecDepth 100000 in
set_option maxHeartbeats 16000000 in
theorem put_list7 {F : Nat → Prop} (n : Int) (s : ByteArray) (m : List Int) (l t : List Dt.D) (hil : ∀ x ∈ l, Rd.PutIs x ∧ Dt.Wf x ∧ Rd.Fine x) (hit : ∀ x ∈ t, Rd.PutIs x ∧ Dt.Wf x ∧ Rd.Fine x) (hsh : Rd.shortL 7 l = 0) (hln : l.length ≤ 140737488355328 ∧ t.length ≤ 140737488355328) (base P : Nat) (acc : List UInt8) (v0 vm vl vt : Value) (w : World) (hR : Dt.Rep F w (.mk 7 n s m l t) vm vl vt) (hF : ∀ k, F k → k < base ∧ k ≠ P)
  (hP : Rd.Pw base P w v0 w acc v0) (hPb : P < base) (hb : base ≤ w.heap.size) (hl : acc.length + ((Tx.signL 1 ++ Rd.txts l ++ Rd.txtt t ++ [41]).length) ≤ 140737488355328) :
  Calls Try.prog 20 #[.pointer (some ⟨P, 0, none⟩), .agg #[.int .i64 7, .int .i64 n, .string s, vm, vl, vt]] w (Rd.PutP base P (acc ++ (Tx.signL 1 ++ Rd.txts l ++ Rd.txtt t ++ [41])) v0 w) := by
 obtain ⟨b1, m1, p1, b2, m2, p2, b3, m3, p3, rfl, rfl, rfl⟩ := hR.forms
 obtain ⟨w1, hw1⟩ : ∃ w1, w.alloc (.cells #[.int .i64 7, .int .i64 n, .string s, .slice b1 m1 p1, .slice b2 m2 p2, .slice b3 m3 p3] 25) = w1 := ⟨_, rfl⟩
 obtain ⟨hb1, hs1⟩ := new_below hw1
 have hX1 := Hp.new hw1
 have hq := rdQuoted_any (.mk 7 n s m l t) _ _ _ w1 (hR.below hb1)
 rw [show Rd.shortL (Dt.D.mk 7 n s m l t).k (Dt.D.mk 7 n s m l t).l = 0 from hsh] at hq
 simp only [Dt.D.k, Dt.D.n, Dt.D.s] at hq
 obtain ⟨X, hX⟩ : ∃ X, w.heap.size = X := ⟨_, rfl⟩
 rw [hX] at hX1 hs1
 obtain ⟨sg, hsg⟩ : ∃ sg, Tx.signL 1 = sg := ⟨_, rfl⟩
 have HT := psign1
 rw [hsg] at HT hl ⊢
 simp only [List.length_append, List.length_cons, List.length_nil] at hl
 have HHL := Lib.hid hl
 obtain ⟨-, ⟨al, cl, e2, hcl, hcs⟩, ⟨at_, ct, e3, hct, hts⟩⟩ := (Dt.rep_iff _ _ _ _ _ _).1 hR
 cases e2
 cases e3
 rw [show (Dt.D.mk 7 n s m l t).l.length = l.length from rfl, show (Dt.D.mk 7 n s m l t).t.length = t.length from rfl] at hw1 hX1 hq ⊢
 obtain ⟨N, hN⟩ : ∃ N, l.length = N := ⟨_, rfl⟩
 obtain ⟨T, hT⟩ : ∃ T, t.length = T := ⟨_, rfl⟩
 rw [hN, hT] at hw1 hX1 hq ⊢
 obtain ⟨i0, hi, hz0, hz1, hz2⟩ := info_parts Cd.infoB
 have HI0 := Lib.hid hi
 have HZ0 := Lib.hid hz0
 have HZ1 := Lib.hid hz1
 have HZ2 := Lib.hid hz2
 have HCS := Lib.hid hcs
 have HTS := Lib.hid hts
 have HIL := Lib.hid hil
 have HIT := Lib.hid hit
 have HNT : Hid (l.length = N ∧ t.length = T ∧ N ≤ 140737488355328 ∧ T ≤ 140737488355328) := ⟨hN, hT, by omega, by omega⟩
 have HFF := Lib.hid hF
 have HB1 := Lib.hid hb1
 have HX1 := Lib.hid hX1
 have HP1 : Hid (Rd.Pw base P w1 v0 w1 acc v0) := (hP.below hb1).again
 have HBB : Hid (base ≤ w1.heap.size ∧ w.heap.size = X ∧ base ≤ X ∧ w1.heap.size = X + 1) := ⟨by have := hb1.size; omega, hX, by omega, hs1⟩
 have HOW : Hid (∀ k, v0.ownBlock = some k → base ≤ k ∧ k < w.heap.size) := fun k e => hP.row.lt k e
 have HNF : Hid (∀ W, Keep (fun k => k = P ∨ v0.ownBlock = some k) w1 W → Hp W X #[.int .i64 7, .int .i64 n, .string s, .slice b1 m1 p1, .slice b2 N p2, .slice b3 T p3] 25 ∧ (∀ (g o : Nat) (x : Dt.D) (um ul ut : Value), F g → g < w.heap.size → Dt.Six w g o x um ul ut → Dt.Six W g o x um ul ut) ∧ (∀ (x : Dt.D) (um ul ut : Value), Dt.Rep F w x um ul ut → Dt.Rep F W x um ul ut)) := fun W hk => by
  have hkw : Keep (fun k => k = P ∨ v0.ownBlock = some k) w W := (keep_of_below hb1).trans hk
  refine ⟨hX1.keep hk (fun e => e.elim (fun e => by omega) (fun e => by have := hP.row.lt X e; omega)), fun g o x um ul ut hg hgl h => h.keep hkw hgl (fun e => e.elim (hF g hg).2 (fun e => by have := (hP.row.lt g e).1; have := (hF g hg).1; omega)), fun x um ul ut h => Dt.Rep.keep hkw (fun k hk _ e => e.elim (hF k hk).2 (fun e => by have := (hP.row.lt k e).1; have := (hF k hk).1; omega)) x h⟩
 have x0 := hX1.cell 0 rfl
 have x1 := hX1.cell 1 rfl
 have x2 := hX1.cell 2 rfl
 have x3 := hX1.cell 3 rfl
 have x4 := hX1.cell 4 rfl
 have x5 := hX1.cell 5 rfl
 clear hX1 hb1 hs1 hR hP hb hsg hcs hts hF hil hit hln hl hi hz0 hz1 hz2 hcl hct hN hT
 go_enter Try.func20, Try.ntmps20
 go_wp2_with fail
 refine hq.mono ?_
 rintro e w2 ⟨rfl, hb2⟩
 have hp2 := HP1.out.below hb2
 obtain ⟨hX2, -, -⟩ := HNF.out w2 hp2.kp
 have hcw := pword_any 1 0 0 ⟨#[]⟩ sg HT base P acc w2 v0 hp2.again hPb (by have := HBB.out; have := hb2.size; omega) (by have := HHL.out; omega)
 have HP2 := Lib.hid hp2
 clear x0 x1 x2 x3 x4 x5 hw1 hq hb2 hp2
 have x0 := hX2.cell 0 rfl
 have x1 := hX2.cell 1 rfl
 have x2 := hX2.cell 2 rfl
 have x3 := hX2.cell 3 rfl
 have x4 := hX2.cell 4 rfl
 have x5 := hX2.cell 5 rfl
 clear hX2
 go_wp2_with fail
 refine hcw.mono ?_
 rintro e w3 ⟨rfl, v3, hp3⟩
 have hp3' := HP2.out.trans hp3
 obtain ⟨hX3, -, -⟩ := HNF.out w3 hp3'.kp
 have HP3 : Hid (Rd.Pw base P w1 v0 w3 (acc ++ sg ++ Rd.txts (l.take 0)) v3) := by
  show Rd.Pw _ _ _ _ _ _ _
  rw [List.take_zero, Rd.txts, List.append_nil]
  exact hp3'
 clear x0 x1 x2 x3 x4 x5 hcw hp3 hp3'
 have x4 := hX3.cell 4 rfl
 clear hX3
 go_wp2
 go_loopw [34] (fun vi wr => ∃ (j : Nat) (vj : Value), vi = .int .i64 j ∧ j ≤ N ∧ Hid (Rd.Pw base P w1 v0 wr (acc ++ sg ++ Rd.txts (l.take j)) vj)) (fun vi _ => N - (intOf vi).toNat)
 case atStart => exact ⟨0, v3, rfl, by omega, HP3⟩
 case round =>
  clear HP3 HP2
  obtain ⟨j, vj, rfl, hj, HPJ⟩ := hrel
  by_cases hlt : j < N
  ·have hlti : (j : Int) < (N : Int) := by omega
   have HJW : Hid (wrap64 ((j : Int) + 1) = (j : Int) + 1) := by have := HNT.out; show _ = _; unfold wrap64; omega
   have hjl : j < l.length := by have := HNT.out; omega
   obtain ⟨g, o, rfl, hFg, hgl, hreps⟩ := HCS.out (by intro e; have e' : l = [] := e; rw [e'] at hjl; exact absurd hjl (by simp))
   obtain ⟨um, ul, ut, hsix, hrz⟩ := hreps.at j hjl
   obtain ⟨d1, f1, q1, d2, f2, q2, d3, f3, q3, rfl, rfl, rfl⟩ := hrz.forms
   obtain ⟨z, hz⟩ : ∃ z, l[j] = z := ⟨_, rfl⟩
   have HTK : Hid (Rd.txts (l.take (j + 1)) = Rd.txts (l.take j) ++ (if j = 0 then [] else [32]) ++ Rd.txt z) := by show _ = _; rw [Rd.txts_take l j hjl, hz]
   have HIZ := Lib.hid (HIL.out l[j] (List.getElem_mem hjl))
   have hrz' : Dt.Rep F w z (.slice d1 f1 q1) (.slice d2 f2 q2) (.slice d3 f3 q3) := by rw [← hz]; exact hrz
   have hsix' : Dt.Six w g (o + j * 6) z (.slice d1 f1 q1) (.slice d2 f2 q2) (.slice d3 f3 q3) := by rw [← hz]; exact hsix
   rw [hz] at HIZ
   have HLE : Hid ((Rd.txts (l.take (j + 1))).length ≤ (Rd.txts l).length) := Rd.txts_le l (j + 1)
   have HRZ := Lib.hid hrz'
   obtain ⟨-, hsx, -⟩ := HNF.out wr HPJ.out.kp
   obtain ⟨y0, y1, y2, y3, y4, y5⟩ := hsx g (o + j * 6) z _ _ _ hFg hgl hsix'
   obtain ⟨w4, hw4⟩ : ∃ w4, wr.alloc (.cells #[.int .i64 z.k, .int .i64 z.n, .string z.s, .slice d1 f1 q1, .slice d2 f2 q2, .slice d3 f3 q3] 25) = w4 := ⟨_, rfl⟩
   obtain ⟨hb4, hs4⟩ := new_below hw4
   have hZ4 := Hp.new hw4
   have HZ4 := Lib.hid hZ4
   have hp4 := HPJ.out.below hb4
   have HP4 := Lib.hid hp4
   have HZN : Hid (Hp w4 wr.heap.size #[.int .i64 z.k, .int .i64 z.n, .string z.s, .slice d1 f1 q1, .slice d2 f2 q2, .slice d3 f3 q3] 25 ∧ (∀ k, vj.ownBlock = some k → base ≤ k ∧ k < wr.heap.size) ∧ w1.heap.size ≤ wr.heap.size) := ⟨hZ4, fun k e => HPJ.out.row.lt k e, HPJ.out.kp.size⟩
   obtain ⟨ZB, hZB⟩ : ∃ ZB, wr.heap.size = ZB := ⟨_, rfl⟩
   rw [hZB] at HZN HZ4 hZ4
   have hbs4 : base ≤ w4.heap.size := by have := HZN.out.2.2; have := HBB.out; omega
   have HBS4 := Lib.hid hbs4
   clear hsix hrz hrz' hsix' hreps hsx hz hb4 hs4 hjl
   by_cases hj0 : j = 0
   ·subst hj0
    have hc := HIZ.out.1 F base P (acc ++ sg ++ Rd.txts (l.take 0)) vj _ _ _ w4 HIZ.out.2.1 HIZ.out.2.2 ((HNF.out w4 HP4.out.kp).2.2 z _ _ _ HRZ.out) HFF.out hp4.again hPb hbs4 (by have h1 := HTK.out; have h2 := HLE.out; have h3 := HHL.out; rw [h1] at h2; simp only [List.length_append] at h2 ⊢; omega)
    have z0 := hZ4.cell 0 rfl
    have z1 := hZ4.cell 1 rfl
    have z2 := hZ4.cell 2 rfl
    have z3 := hZ4.cell 3 rfl
    have z4 := hZ4.cell 4 rfl
    have z5 := hZ4.cell 5 rfl
    simp only [Nat.zero_mul, Nat.add_zero] at y0 y1 y2 y3 y4 y5
    clear hZ4 hp4 hbs4
    go_wp2_with fail
    refine hc.mono ?_
    rintro e w5 ⟨rfl, v5, hp5⟩
    have HN5 : Hid (Rd.Pw base P w1 v0 w5 (acc ++ sg ++ Rd.txts (l.take 1)) v5) := by
     have := HP4.out.trans hp5
     have h1 := HTK.out
     simp only [Nat.zero_add, if_pos] at h1
     show Rd.Pw _ _ _ _ _ _ _
     rw [h1, List.append_nil, ← List.append_assoc]
     exact this
    clear hc hp5 z0 z1 z2 z3 z4 z5 y0 y1 y2 y3 y4 y5 hw4
    go_wp2
    go_roundw
    case rel => exact ⟨1, v5, by simp, by omega, HN5⟩
    case measure => simp [intOf]; omega
   ·have hji : (0 : Int) < (j : Int) := by omega
    have hrow4 := HP4.out.row
    obtain ⟨aj, cj, hvj⟩ := Dt.row_form hrow4
    subst hvj
    have hp40 := HP4.out.hp
    obtain ⟨w5, hw5⟩ : ∃ w5, w4.alloc (.cells #[.int .u8 32] 5) = w5 := ⟨_, rfl⟩
    obtain ⟨hb5, hs5⟩ := new_below hw5
    have hS5 := Hp.new hw5
    have hp5 := HP4.out.below hb5
    have hrow5 := hp5.row
    have hsrc5 : Ap.Src w5 (.slice (some ⟨w4.heap.size, 0, none⟩) 1 1) 1 [.int .u8 32] := .inr ⟨_, _, rfl, fun q u hu => by
     rw [Addr.add_mid, Nat.zero_add]
     exact hS5.cell q (by rw [← hu]; simp)⟩
    have hbs5 : base ≤ w5.heap.size := by have := hb5.size; omega
    have p0 := hp40.cell 0 rfl
    have HP5 := Lib.hid hp5
    have hlen : (acc ++ sg ++ Rd.txts (l.take j)).length + 1 ≤ 140737488355328 := by have h1 := HTK.out; have h2 := HLE.out; have h3 := HHL.out; rw [h1, if_neg hj0] at h2; simp only [List.length_append, List.length_cons, List.length_nil] at h2 ⊢; omega
    obtain ⟨AC, hAC⟩ : ∃ AC, acc ++ sg ++ Rd.txts (l.take j) = AC := ⟨_, rfl⟩
    rw [hAC] at hrow5 hlen HP5 HP4 HPJ
    have HAC := Lib.hid hAC
    have hZ5 := HZ4.out.below hb5
    have HZ5 := Lib.hid hZ5
    clear hp40 hb5 hs5 hS5 hp5 hZ4 hp4 hbs4 hZ5 hrow4
    go_wp2_with (at_builtin; refine Ap.list rfl _ _ 53 rfl base 5 i0 (.int .u8 0) 1 1 Try.underlying53 HI0.out HZ0.out HZ1.out HZ2.out rfl (by decide) _ AC.length _ rfl hrow5 (.slice (some ⟨w4.heap.size, 0, none⟩) 1 1) 1 [.int .u8 32] rfl hsrc5 rfl (by intro u hu; simp at hu; subst hu; rfl) (by unfold maxLen; omega) (by omega) hbs5 ?_)
    intro v6 w6 hown6 hgr6 hat6
    obtain ⟨a6, c6, rfl⟩ := Dt.row_form hown6
    obtain ⟨g1, g2⟩ := Rd.Pw.push (x := [32]) HP5.out.hp HP5.out.row hPb hbs5 hown6 hgr6 hat6
    have p1 := g2.cell 0 rfl
    have f1 := g2.frz 0
    obtain ⟨w7, hw7⟩ : ∃ w7, w6.setCell ⟨P, 0, none⟩ (.slice a6 (AC.length + 1) c6) = w7 := ⟨_, rfl⟩
    have g1' : Rd.Pw base P w5 (.slice aj AC.length cj) w7 (AC ++ [32]) (.slice a6 (AC.length + 1) c6) := by rw [← hw7]; exact g1
    have hp7 := HP5.out.trans g1'
    have hZ7 := HZ5.out.keep g1'.kp (fun e => e.elim (fun e => by have := HZN.out.2.2; have := HBB.out; omega) (fun e => by have := HZN.out.2.1 ZB (by rw [← hAC] at e; exact e); omega))
    have hc := HIZ.out.1 F base P (AC ++ [32]) _ _ _ _ w7 HIZ.out.2.1 HIZ.out.2.2 ((HNF.out w7 hp7.kp).2.2 z _ _ _ HRZ.out) HFF.out hp7.again hPb (by have := g1'.kp.size; omega) (by have h1 := HTK.out; have h2 := HLE.out; have h3 := HHL.out; rw [h1, if_neg hj0] at h2; have h4 := congrArg List.length HAC.out; simp only [List.length_append, List.length_cons, List.length_nil] at h2 h4 ⊢; omega)
    have HP7 := Lib.hid hp7
    have z0 := hZ7.cell 0 rfl
    have z1 := hZ7.cell 1 rfl
    have z2 := hZ7.cell 2 rfl
    have z3 := hZ7.cell 3 rfl
    have z4 := hZ7.cell 4 rfl
    have z5 := hZ7.cell 5 rfl
    clear hown6 hgr6 hat6 g1 g2 g1' hp7 hZ7 hlen hbs5 hsrc5 hrow5 y0 y1 y2 y3 y4 y5 p0 hw4 hw5
    go_wp2_with fail
    refine hc.mono ?_
    rintro e w8 ⟨rfl, v8, hp8⟩
    have HN8 : Hid (Rd.Pw base P w1 v0 w8 (acc ++ sg ++ Rd.txts (l.take (j + 1))) v8) := by
     have := HP7.out.trans hp8
     show Rd.Pw _ _ _ _ _ _ _
     rw [HTK.out, if_neg hj0, ← List.append_assoc, ← List.append_assoc, HAC.out]
     exact this
    clear hc hp8 z0 z1 z2 z3 z4 z5 hw7 p1 f1
    go_wp2
    go_roundw
    case rel => exact ⟨j + 1, v8, by rw [HJW.out]; simp, by omega, HN8⟩
    case measure => rw [HJW.out]; simp [intOf]; omega
  ·have hge : (N : Int) ≤ (j : Int) := by omega
   have hpj := HPJ.out
   rw [List.take_of_length_le (by have := HNT.out; omega)] at hpj
   obtain ⟨AC, hAC⟩ : ∃ AC, acc ++ sg ++ Rd.txts l = AC := ⟨_, rfl⟩
   rw [hAC] at hpj
   have HAC := Lib.hid hAC
   have hbsr : base ≤ wr.heap.size := by have := hpj.kp.size; have := HBB.out; omega
   obtain ⟨hXr, -, -⟩ := HNF.out wr hpj.kp
   have x5 := hXr.cell 5 rfl
   clear hAC HPJ
   by_cases hT0 : T = 0
   ·subst hT0
    obtain rfl : t = [] := List.eq_nil_of_length_eq_zero HNT.out.2.1
    have hcw := pword_any 2 0 0 ⟨#[]⟩ [41] psign2 base P AC wr vj hpj.again hPb hbsr (by have h3 := HHL.out; have h4 := congrArg List.length HAC.out; simp only [List.length_append, List.length_cons, List.length_nil] at h4 ⊢; omega)
    have HPJ := Lib.hid hpj
    clear hXr hpj hbsr
    go_wp2_with fail
    refine hcw.mono ?_
    rintro e w9 ⟨rfl, v9, hp9⟩
    have HE : Hid (Rd.PutP base P (acc ++ (sg ++ Rd.txts l ++ Rd.txtt [] ++ [41])) v0 w (.returned (.tuple #[])) w9) := ⟨rfl, v9, by
     rw [Rd.txtt, List.append_nil, ← List.append_assoc, ← List.append_assoc, HAC.out]
     exact Rd.Pw.from HB1.out (HPJ.out.trans hp9)⟩
    clear hcw hp9 x5
    go_wp2
    refine bodyPost_ret (v := .tuple #[]) (by simp [results, Try.results20, go_sem, *]) rfl ?_
    exact HE.out
   ·have hTi : (0 : Int) < (T : Int) := by omega
    obtain ⟨d0, tr, rfl⟩ : ∃ d0 tr, t = d0 :: tr := by
     cases t with
     | nil => exact absurd HNT.out.2.1.symm hT0
     | cons d0 tr => exact ⟨d0, tr, rfl⟩
    obtain ⟨g, o, rfl, hFg, hgl, hreps⟩ := HTS.out (by simp [Dt.D.t])
    obtain ⟨um, ul, ut, hsix, hrz⟩ := hreps.at 0 (by simp [Dt.D.t])
    obtain ⟨d1, f1, q1, d2, f2, q2, d3, f3, q3, rfl, rfl, rfl⟩ := hrz.forms
    rw [Nat.zero_mul, Nat.add_zero] at hsix
    have hsix' : Dt.Six w g o d0 (.slice d1 f1 q1) (.slice d2 f2 q2) (.slice d3 f3 q3) := hsix
    have HRZ : Hid (Dt.Rep F w d0 (.slice d1 f1 q1) (.slice d2 f2 q2) (.slice d3 f3 q3)) := hrz
    have HSX := Lib.hid hsix'
    have HIZ := Lib.hid (HIT.out d0 (List.mem_cons_self))
    have HFG : Hid (F g ∧ g < w.heap.size) := ⟨hFg, hgl⟩
    have hrowr := hpj.row
    have hpr := hpj.hp
    obtain ⟨aj, cj, hvj⟩ := Dt.row_form hrowr
    subst hvj
    have p0 := hpr.cell 0 rfl
    have HPJ := Lib.hid hpj
    have hlen : AC.length + 3 ≤ 140737488355328 := by have h3 := HHL.out; have h4 := congrArg List.length HAC.out; rw [Rd.txtt] at h3; simp only [List.length_append, List.length_cons] at h3 h4 ⊢; omega
    have h3s : (⟨#[32, 46, 32]⟩ : ByteArray).size = 3 := rfl
    clear hXr hpj hsix hrz hsix' hreps hpr hFg hgl
    go_wp2_with (at_builtin; refine Ap.strList rfl _ _ 53 9 rfl base 5 i0 Try.underlying53 Try.underlying9 HI0.out HZ0.out HZ1.out HZ2.out _ _ _ rfl hrowr ⟨#[32, 46, 32]⟩ rfl (by rw [h3s]; unfold maxLen; omega) (by rw [h3s]; omega) hbsr ?_)
    intro v6 w6 hown6 hgr6 hat6
    obtain ⟨a6, c6, rfl⟩ := Dt.row_form hown6
    obtain ⟨g1, g2⟩ := Rd.Pw.push (x := [32, 46, 32]) HPJ.out.hp HPJ.out.row hPb hbsr (by
     have e : Lib.strCells ⟨#[32, 46, 32]⟩ = Lib.byteCells [32, 46, 32] := by rw [Lib.strCells_eq]
     rw [e] at hown6
     exact hown6) hgr6 hat6
    have p1 := g2.cell 0 rfl
    have f1 := g2.frz 0
    obtain ⟨w7, hw7⟩ : ∃ w7, w6.setCell ⟨P, 0, none⟩ (.slice a6 (AC.length + 3) c6) = w7 := ⟨_, rfl⟩
    have g1' : Rd.Pw base P wr (.slice aj AC.length cj) w7 (AC ++ [32, 46, 32]) (.slice a6 (AC.length + 3) c6) := by rw [← hw7]; exact g1
    have hp7 := HPJ.out.trans g1'
    obtain ⟨hX7, hsx7, hrp7⟩ := HNF.out w7 hp7.kp
    obtain ⟨y0, y1, y2, y3, y4, y5⟩ := hsx7 g o d0 _ _ _ HFG.out.1 HFG.out.2 HSX.out
    have x5' := hX7.cell 5 rfl
    have hc := HIZ.out.1 F base P (AC ++ [32, 46, 32]) _ _ _ _ w7 HIZ.out.2.1 HIZ.out.2.2 (hrp7 d0 _ _ _ HRZ.out) HFF.out hp7.again hPb (by have := g1'.kp.size; omega) (by have h3 := HHL.out; have h4 := congrArg List.length HAC.out; rw [Rd.txtt] at h3; simp only [List.length_append, List.length_cons, List.length_nil] at h3 h4 ⊢; omega)
    have HP7 := Lib.hid hp7
    have HS7 : Hid (base ≤ w7.heap.size) := by have := g1'.kp.size; show _ ≤ _; omega
    clear hown6 hgr6 hat6 g1 g2 g1' hp7 hX7 hsx7 hrp7 hlen hrowr hbsr p0 x5 h3s
    go_wp2_with fail
    refine hc.mono ?_
    rintro e w8 ⟨rfl, v8, hp8⟩
    have hcw := pword_any 2 0 0 ⟨#[]⟩ [41] psign2 base P (AC ++ [32, 46, 32] ++ Rd.txt d0) w8 v8 hp8.again hPb (by have := HS7.out; have := hp8.kp.size; omega) (by have h3 := HHL.out; have h4 := congrArg List.length HAC.out; rw [Rd.txtt] at h3; simp only [List.length_append, List.length_cons, List.length_nil] at h3 h4 ⊢; omega)
    have HP8 := Lib.hid (HP7.out.trans hp8)
    clear hc hp8 y0 y1 y2 y3 y4 y5 x5' hw7 p1 f1
    go_wp2_with fail
    refine hcw.mono ?_
    rintro e w9 ⟨rfl, v9, hp9⟩
    have HE : Hid (Rd.PutP base P (acc ++ (sg ++ Rd.txts l ++ Rd.txtt (d0 :: tr) ++ [41])) v0 w (.returned (.tuple #[])) w9) := ⟨rfl, v9, by
     have := Rd.Pw.from HB1.out (HP8.out.trans hp9)
     rw [← HAC.out] at this
     rw [Rd.txtt]
     simp only [List.append_assoc, List.cons_append, List.nil_append] at this ⊢
     exact this⟩
    clear hcw hp9
    go_wp2
    refine bodyPost_ret (v := .tuple #[]) (by simp [results, Try.results20, go_sem, *]) rfl ?_
    exact HE.out
set_option maxRecDepth 100000 in
set_option maxHeartbeats 16000000 in
theorem put_list8 {F : Nat → Prop} (n : Int) (s : ByteArray) (m : List Int) (l t : List Dt.D) (hil : ∀ x ∈ l, Rd.PutIs x ∧ Dt.Wf x ∧ Rd.Fine x) (hit : ∀ x ∈ t, Rd.PutIs x ∧ Dt.Wf x ∧ Rd.Fine x) (hsh : Rd.shortL 8 l = 0) (hln : l.length ≤ 140737488355328 ∧ t.length ≤ 140737488355328) (base P : Nat) (acc : List UInt8) (v0 vm vl vt : Value) (w : World) (hR : Dt.Rep F w (.mk 8 n s m l t) vm vl vt) (hF : ∀ k, F k → k < base ∧ k ≠ P)
  (hP : Rd.Pw base P w v0 w acc v0) (hPb : P < base) (hb : base ≤ w.heap.size) (hl : acc.length + ((Tx.signL 3 ++ Rd.txts l ++ Rd.txtt t ++ [41]).length) ≤ 140737488355328) :
  Calls Try.prog 20 #[.pointer (some ⟨P, 0, none⟩), .agg #[.int .i64 8, .int .i64 n, .string s, vm, vl, vt]] w (Rd.PutP base P (acc ++ (Tx.signL 3 ++ Rd.txts l ++ Rd.txtt t ++ [41])) v0 w) := by
 obtain ⟨b1, m1, p1, b2, m2, p2, b3, m3, p3, rfl, rfl, rfl⟩ := hR.forms
 obtain ⟨w1, hw1⟩ : ∃ w1, w.alloc (.cells #[.int .i64 8, .int .i64 n, .string s, .slice b1 m1 p1, .slice b2 m2 p2, .slice b3 m3 p3] 25) = w1 := ⟨_, rfl⟩
 obtain ⟨hb1, hs1⟩ := new_below hw1
 have hX1 := Hp.new hw1
 have hq := rdQuoted_any (.mk 8 n s m l t) _ _ _ w1 (hR.below hb1)
 rw [show Rd.shortL (Dt.D.mk 8 n s m l t).k (Dt.D.mk 8 n s m l t).l = 0 from hsh] at hq
 simp only [Dt.D.k, Dt.D.n, Dt.D.s] at hq
 obtain ⟨X, hX⟩ : ∃ X, w.heap.size = X := ⟨_, rfl⟩
 rw [hX] at hX1 hs1
 obtain ⟨sg, hsg⟩ : ∃ sg, Tx.signL 3 = sg := ⟨_, rfl⟩
 have HT := psign3
 rw [hsg] at HT hl ⊢
 simp only [List.length_append, List.length_cons, List.length_nil] at hl
 have HHL := Lib.hid hl
 obtain ⟨-, ⟨al, cl, e2, hcl, hcs⟩, ⟨at_, ct, e3, hct, hts⟩⟩ := (Dt.rep_iff _ _ _ _ _ _).1 hR
 cases e2
 cases e3
 rw [show (Dt.D.mk 8 n s m l t).l.length = l.length from rfl, show (Dt.D.mk 8 n s m l t).t.length = t.length from rfl] at hw1 hX1 hq ⊢
 obtain ⟨N, hN⟩ : ∃ N, l.length = N := ⟨_, rfl⟩
 obtain ⟨T, hT⟩ : ∃ T, t.length = T := ⟨_, rfl⟩
 rw [hN, hT] at hw1 hX1 hq ⊢
 obtain ⟨i0, hi, hz0, hz1, hz2⟩ := info_parts Cd.infoB
 have HI0 := Lib.hid hi
 have HZ0 := Lib.hid hz0
 have HZ1 := Lib.hid hz1
 have HZ2 := Lib.hid hz2
 have HCS := Lib.hid hcs
 have HTS := Lib.hid hts
 have HIL := Lib.hid hil
 have HIT := Lib.hid hit
 have HNT : Hid (l.length = N ∧ t.length = T ∧ N ≤ 140737488355328 ∧ T ≤ 140737488355328) := ⟨hN, hT, by omega, by omega⟩
 have HFF := Lib.hid hF
 have HB1 := Lib.hid hb1
 have HX1 := Lib.hid hX1
 have HP1 : Hid (Rd.Pw base P w1 v0 w1 acc v0) := (hP.below hb1).again
 have HBB : Hid (base ≤ w1.heap.size ∧ w.heap.size = X ∧ base ≤ X ∧ w1.heap.size = X + 1) := ⟨by have := hb1.size; omega, hX, by omega, hs1⟩
 have HOW : Hid (∀ k, v0.ownBlock = some k → base ≤ k ∧ k < w.heap.size) := fun k e => hP.row.lt k e
 have HNF : Hid (∀ W, Keep (fun k => k = P ∨ v0.ownBlock = some k) w1 W → Hp W X #[.int .i64 8, .int .i64 n, .string s, .slice b1 m1 p1, .slice b2 N p2, .slice b3 T p3] 25 ∧ (∀ (g o : Nat) (x : Dt.D) (um ul ut : Value), F g → g < w.heap.size → Dt.Six w g o x um ul ut → Dt.Six W g o x um ul ut) ∧ (∀ (x : Dt.D) (um ul ut : Value), Dt.Rep F w x um ul ut → Dt.Rep F W x um ul ut)) := fun W hk => by
  have hkw : Keep (fun k => k = P ∨ v0.ownBlock = some k) w W := (keep_of_below hb1).trans hk
  refine ⟨hX1.keep hk (fun e => e.elim (fun e => by omega) (fun e => by have := hP.row.lt X e; omega)), fun g o x um ul ut hg hgl h => h.keep hkw hgl (fun e => e.elim (hF g hg).2 (fun e => by have := (hP.row.lt g e).1; have := (hF g hg).1; omega)), fun x um ul ut h => Dt.Rep.keep hkw (fun k hk _ e => e.elim (hF k hk).2 (fun e => by have := (hP.row.lt k e).1; have := (hF k hk).1; omega)) x h⟩
 have x0 := hX1.cell 0 rfl
 have x1 := hX1.cell 1 rfl
 have x2 := hX1.cell 2 rfl
 have x3 := hX1.cell 3 rfl
 have x4 := hX1.cell 4 rfl
 have x5 := hX1.cell 5 rfl
 clear hX1 hb1 hs1 hR hP hb hsg hcs hts hF hil hit hln hl hi hz0 hz1 hz2 hcl hct hN hT
 go_enter Try.func20, Try.ntmps20
 go_wp2_with fail
 refine hq.mono ?_
 rintro e w2 ⟨rfl, hb2⟩
 have hp2 := HP1.out.below hb2
 obtain ⟨hX2, -, -⟩ := HNF.out w2 hp2.kp
 have hcw := pword_any 3 0 0 ⟨#[]⟩ sg HT base P acc w2 v0 hp2.again hPb (by have := HBB.out; have := hb2.size; omega) (by have := HHL.out; omega)
 have HP2 := Lib.hid hp2
 clear x0 x1 x2 x3 x4 x5 hw1 hq hb2 hp2
 have x0 := hX2.cell 0 rfl
 have x1 := hX2.cell 1 rfl
 have x2 := hX2.cell 2 rfl
 have x3 := hX2.cell 3 rfl
 have x4 := hX2.cell 4 rfl
 have x5 := hX2.cell 5 rfl
 clear hX2
 go_wp2_with fail
 refine hcw.mono ?_
 rintro e w3 ⟨rfl, v3, hp3⟩
 have hp3' := HP2.out.trans hp3
 obtain ⟨hX3, -, -⟩ := HNF.out w3 hp3'.kp
 have HP3 : Hid (Rd.Pw base P w1 v0 w3 (acc ++ sg ++ Rd.txts (l.take 0)) v3) := by
  show Rd.Pw _ _ _ _ _ _ _
  rw [List.take_zero, Rd.txts, List.append_nil]
  exact hp3'
 clear x0 x1 x2 x3 x4 x5 hcw hp3 hp3'
 have x4 := hX3.cell 4 rfl
 clear hX3
 go_wp2
 go_loopw [34] (fun vi wr => ∃ (j : Nat) (vj : Value), vi = .int .i64 j ∧ j ≤ N ∧ Hid (Rd.Pw base P w1 v0 wr (acc ++ sg ++ Rd.txts (l.take j)) vj)) (fun vi _ => N - (intOf vi).toNat)
 case atStart => exact ⟨0, v3, rfl, by omega, HP3⟩
 case round =>
  clear HP3 HP2
  obtain ⟨j, vj, rfl, hj, HPJ⟩ := hrel
  by_cases hlt : j < N
  ·have hlti : (j : Int) < (N : Int) := by omega
   have HJW : Hid (wrap64 ((j : Int) + 1) = (j : Int) + 1) := by have := HNT.out; show _ = _; unfold wrap64; omega
   have hjl : j < l.length := by have := HNT.out; omega
   obtain ⟨g, o, rfl, hFg, hgl, hreps⟩ := HCS.out (by intro e; have e' : l = [] := e; rw [e'] at hjl; exact absurd hjl (by simp))
   obtain ⟨um, ul, ut, hsix, hrz⟩ := hreps.at j hjl
   obtain ⟨d1, f1, q1, d2, f2, q2, d3, f3, q3, rfl, rfl, rfl⟩ := hrz.forms
   obtain ⟨z, hz⟩ : ∃ z, l[j] = z := ⟨_, rfl⟩
   have HTK : Hid (Rd.txts (l.take (j + 1)) = Rd.txts (l.take j) ++ (if j = 0 then [] else [32]) ++ Rd.txt z) := by show _ = _; rw [Rd.txts_take l j hjl, hz]
   have HIZ := Lib.hid (HIL.out l[j] (List.getElem_mem hjl))
   have hrz' : Dt.Rep F w z (.slice d1 f1 q1) (.slice d2 f2 q2) (.slice d3 f3 q3) := by rw [← hz]; exact hrz
   have hsix' : Dt.Six w g (o + j * 6) z (.slice d1 f1 q1) (.slice d2 f2 q2) (.slice d3 f3 q3) := by rw [← hz]; exact hsix
   rw [hz] at HIZ
   have HLE : Hid ((Rd.txts (l.take (j + 1))).length ≤ (Rd.txts l).length) := Rd.txts_le l (j + 1)
   have HRZ := Lib.hid hrz'
   obtain ⟨-, hsx, -⟩ := HNF.out wr HPJ.out.kp
   obtain ⟨y0, y1, y2, y3, y4, y5⟩ := hsx g (o + j * 6) z _ _ _ hFg hgl hsix'
   obtain ⟨w4, hw4⟩ : ∃ w4, wr.alloc (.cells #[.int .i64 z.k, .int .i64 z.n, .string z.s, .slice d1 f1 q1, .slice d2 f2 q2, .slice d3 f3 q3] 25) = w4 := ⟨_, rfl⟩
   obtain ⟨hb4, hs4⟩ := new_below hw4
   have hZ4 := Hp.new hw4
   have HZ4 := Lib.hid hZ4
   have hp4 := HPJ.out.below hb4
   have HP4 := Lib.hid hp4
   have HZN : Hid (Hp w4 wr.heap.size #[.int .i64 z.k, .int .i64 z.n, .string z.s, .slice d1 f1 q1, .slice d2 f2 q2, .slice d3 f3 q3] 25 ∧ (∀ k, vj.ownBlock = some k → base ≤ k ∧ k < wr.heap.size) ∧ w1.heap.size ≤ wr.heap.size) := ⟨hZ4, fun k e => HPJ.out.row.lt k e, HPJ.out.kp.size⟩
   obtain ⟨ZB, hZB⟩ : ∃ ZB, wr.heap.size = ZB := ⟨_, rfl⟩
   rw [hZB] at HZN HZ4 hZ4
   have hbs4 : base ≤ w4.heap.size := by have := HZN.out.2.2; have := HBB.out; omega
   have HBS4 := Lib.hid hbs4
   clear hsix hrz hrz' hsix' hreps hsx hz hb4 hs4 hjl
   by_cases hj0 : j = 0
   ·subst hj0
    have hc := HIZ.out.1 F base P (acc ++ sg ++ Rd.txts (l.take 0)) vj _ _ _ w4 HIZ.out.2.1 HIZ.out.2.2 ((HNF.out w4 HP4.out.kp).2.2 z _ _ _ HRZ.out) HFF.out hp4.again hPb hbs4 (by have h1 := HTK.out; have h2 := HLE.out; have h3 := HHL.out; rw [h1] at h2; simp only [List.length_append] at h2 ⊢; omega)
    have z0 := hZ4.cell 0 rfl
    have z1 := hZ4.cell 1 rfl
    have z2 := hZ4.cell 2 rfl
    have z3 := hZ4.cell 3 rfl
    have z4 := hZ4.cell 4 rfl
    have z5 := hZ4.cell 5 rfl
    simp only [Nat.zero_mul, Nat.add_zero] at y0 y1 y2 y3 y4 y5
    clear hZ4 hp4 hbs4
    go_wp2_with fail
    refine hc.mono ?_
    rintro e w5 ⟨rfl, v5, hp5⟩
    have HN5 : Hid (Rd.Pw base P w1 v0 w5 (acc ++ sg ++ Rd.txts (l.take 1)) v5) := by
     have := HP4.out.trans hp5
     have h1 := HTK.out
     simp only [Nat.zero_add, if_pos] at h1
     show Rd.Pw _ _ _ _ _ _ _
     rw [h1, List.append_nil, ← List.append_assoc]
     exact this
    clear hc hp5 z0 z1 z2 z3 z4 z5 y0 y1 y2 y3 y4 y5 hw4
    go_wp2
    go_roundw
    case rel => exact ⟨1, v5, by simp, by omega, HN5⟩
    case measure => simp [intOf]; omega
   ·have hji : (0 : Int) < (j : Int) := by omega
    have hrow4 := HP4.out.row
    obtain ⟨aj, cj, hvj⟩ := Dt.row_form hrow4
    subst hvj
    have hp40 := HP4.out.hp
    obtain ⟨w5, hw5⟩ : ∃ w5, w4.alloc (.cells #[.int .u8 32] 5) = w5 := ⟨_, rfl⟩
    obtain ⟨hb5, hs5⟩ := new_below hw5
    have hS5 := Hp.new hw5
    have hp5 := HP4.out.below hb5
    have hrow5 := hp5.row
    have hsrc5 : Ap.Src w5 (.slice (some ⟨w4.heap.size, 0, none⟩) 1 1) 1 [.int .u8 32] := .inr ⟨_, _, rfl, fun q u hu => by
     rw [Addr.add_mid, Nat.zero_add]
     exact hS5.cell q (by rw [← hu]; simp)⟩
    have hbs5 : base ≤ w5.heap.size := by have := hb5.size; omega
    have p0 := hp40.cell 0 rfl
    have HP5 := Lib.hid hp5
    have hlen : (acc ++ sg ++ Rd.txts (l.take j)).length + 1 ≤ 140737488355328 := by have h1 := HTK.out; have h2 := HLE.out; have h3 := HHL.out; rw [h1, if_neg hj0] at h2; simp only [List.length_append, List.length_cons, List.length_nil] at h2 ⊢; omega
    obtain ⟨AC, hAC⟩ : ∃ AC, acc ++ sg ++ Rd.txts (l.take j) = AC := ⟨_, rfl⟩
    rw [hAC] at hrow5 hlen HP5 HP4 HPJ
    have HAC := Lib.hid hAC
    have hZ5 := HZ4.out.below hb5
    have HZ5 := Lib.hid hZ5
    clear hp40 hb5 hs5 hS5 hp5 hZ4 hp4 hbs4 hZ5 hrow4
    go_wp2_with (at_builtin; refine Ap.list rfl _ _ 53 rfl base 5 i0 (.int .u8 0) 1 1 Try.underlying53 HI0.out HZ0.out HZ1.out HZ2.out rfl (by decide) _ AC.length _ rfl hrow5 (.slice (some ⟨w4.heap.size, 0, none⟩) 1 1) 1 [.int .u8 32] rfl hsrc5 rfl (by intro u hu; simp at hu; subst hu; rfl) (by unfold maxLen; omega) (by omega) hbs5 ?_)
    intro v6 w6 hown6 hgr6 hat6
    obtain ⟨a6, c6, rfl⟩ := Dt.row_form hown6
    obtain ⟨g1, g2⟩ := Rd.Pw.push (x := [32]) HP5.out.hp HP5.out.row hPb hbs5 hown6 hgr6 hat6
    have p1 := g2.cell 0 rfl
    have f1 := g2.frz 0
    obtain ⟨w7, hw7⟩ : ∃ w7, w6.setCell ⟨P, 0, none⟩ (.slice a6 (AC.length + 1) c6) = w7 := ⟨_, rfl⟩
    have g1' : Rd.Pw base P w5 (.slice aj AC.length cj) w7 (AC ++ [32]) (.slice a6 (AC.length + 1) c6) := by rw [← hw7]; exact g1
    have hp7 := HP5.out.trans g1'
    have hZ7 := HZ5.out.keep g1'.kp (fun e => e.elim (fun e => by have := HZN.out.2.2; have := HBB.out; omega) (fun e => by have := HZN.out.2.1 ZB (by rw [← hAC] at e; exact e); omega))
    have hc := HIZ.out.1 F base P (AC ++ [32]) _ _ _ _ w7 HIZ.out.2.1 HIZ.out.2.2 ((HNF.out w7 hp7.kp).2.2 z _ _ _ HRZ.out) HFF.out hp7.again hPb (by have := g1'.kp.size; omega) (by have h1 := HTK.out; have h2 := HLE.out; have h3 := HHL.out; rw [h1, if_neg hj0] at h2; have h4 := congrArg List.length HAC.out; simp only [List.length_append, List.length_cons, List.length_nil] at h2 h4 ⊢; omega)
    have HP7 := Lib.hid hp7
    have z0 := hZ7.cell 0 rfl
    have z1 := hZ7.cell 1 rfl
    have z2 := hZ7.cell 2 rfl
    have z3 := hZ7.cell 3 rfl
    have z4 := hZ7.cell 4 rfl
    have z5 := hZ7.cell 5 rfl
    clear hown6 hgr6 hat6 g1 g2 g1' hp7 hZ7 hlen hbs5 hsrc5 hrow5 y0 y1 y2 y3 y4 y5 p0 hw4 hw5
    go_wp2_with fail
    refine hc.mono ?_
    rintro e w8 ⟨rfl, v8, hp8⟩
    have HN8 : Hid (Rd.Pw base P w1 v0 w8 (acc ++ sg ++ Rd.txts (l.take (j + 1))) v8) := by
     have := HP7.out.trans hp8
     show Rd.Pw _ _ _ _ _ _ _
     rw [HTK.out, if_neg hj0, ← List.append_assoc, ← List.append_assoc, HAC.out]
     exact this
    clear hc hp8 z0 z1 z2 z3 z4 z5 hw7 p1 f1
    go_wp2
    go_roundw
    case rel => exact ⟨j + 1, v8, by rw [HJW.out]; simp, by omega, HN8⟩
    case measure => rw [HJW.out]; simp [intOf]; omega
  ·have hge : (N : Int) ≤ (j : Int) := by omega
   have hpj := HPJ.out
   rw [List.take_of_length_le (by have := HNT.out; omega)] at hpj
   obtain ⟨AC, hAC⟩ : ∃ AC, acc ++ sg ++ Rd.txts l = AC := ⟨_, rfl⟩
   rw [hAC] at hpj
   have HAC := Lib.hid hAC
   have hbsr : base ≤ wr.heap.size := by have := hpj.kp.size; have := HBB.out; omega
   obtain ⟨hXr, -, -⟩ := HNF.out wr hpj.kp
   have x5 := hXr.cell 5 rfl
   clear hAC HPJ
   by_cases hT0 : T = 0
   ·subst hT0
    obtain rfl : t = [] := List.eq_nil_of_length_eq_zero HNT.out.2.1
    have hcw := pword_any 2 0 0 ⟨#[]⟩ [41] psign2 base P AC wr vj hpj.again hPb hbsr (by have h3 := HHL.out; have h4 := congrArg List.length HAC.out; simp only [List.length_append, List.length_cons, List.length_nil] at h4 ⊢; omega)
    have HPJ := Lib.hid hpj
    clear hXr hpj hbsr
    go_wp2_with fail
    refine hcw.mono ?_
    rintro e w9 ⟨rfl, v9, hp9⟩
    have HE : Hid (Rd.PutP base P (acc ++ (sg ++ Rd.txts l ++ Rd.txtt [] ++ [41])) v0 w (.returned (.tuple #[])) w9) := ⟨rfl, v9, by
     rw [Rd.txtt, List.append_nil, ← List.append_assoc, ← List.append_assoc, HAC.out]
     exact Rd.Pw.from HB1.out (HPJ.out.trans hp9)⟩
    clear hcw hp9 x5
    go_wp2
    refine bodyPost_ret (v := .tuple #[]) (by simp [results, Try.results20, go_sem, *]) rfl ?_
    exact HE.out
   ·have hTi : (0 : Int) < (T : Int) := by omega
    obtain ⟨d0, tr, rfl⟩ : ∃ d0 tr, t = d0 :: tr := by
     cases t with
     | nil => exact absurd HNT.out.2.1.symm hT0
     | cons d0 tr => exact ⟨d0, tr, rfl⟩
    obtain ⟨g, o, rfl, hFg, hgl, hreps⟩ := HTS.out (by simp [Dt.D.t])
    obtain ⟨um, ul, ut, hsix, hrz⟩ := hreps.at 0 (by simp [Dt.D.t])
    obtain ⟨d1, f1, q1, d2, f2, q2, d3, f3, q3, rfl, rfl, rfl⟩ := hrz.forms
    rw [Nat.zero_mul, Nat.add_zero] at hsix
    have hsix' : Dt.Six w g o d0 (.slice d1 f1 q1) (.slice d2 f2 q2) (.slice d3 f3 q3) := hsix
    have HRZ : Hid (Dt.Rep F w d0 (.slice d1 f1 q1) (.slice d2 f2 q2) (.slice d3 f3 q3)) := hrz
    have HSX := Lib.hid hsix'
    have HIZ := Lib.hid (HIT.out d0 (List.mem_cons_self))
    have HFG : Hid (F g ∧ g < w.heap.size) := ⟨hFg, hgl⟩
    have hrowr := hpj.row
    have hpr := hpj.hp
    obtain ⟨aj, cj, hvj⟩ := Dt.row_form hrowr
    subst hvj
    have p0 := hpr.cell 0 rfl
    have HPJ := Lib.hid hpj
    have hlen : AC.length + 3 ≤ 140737488355328 := by have h3 := HHL.out; have h4 := congrArg List.length HAC.out; rw [Rd.txtt] at h3; simp only [List.length_append, List.length_cons] at h3 h4 ⊢; omega
    have h3s : (⟨#[32, 46, 32]⟩ : ByteArray).size = 3 := rfl
    clear hXr hpj hsix hrz hsix' hreps hpr hFg hgl
    go_wp2_with (at_builtin; refine Ap.strList rfl _ _ 53 9 rfl base 5 i0 Try.underlying53 Try.underlying9 HI0.out HZ0.out HZ1.out HZ2.out _ _ _ rfl hrowr ⟨#[32, 46, 32]⟩ rfl (by rw [h3s]; unfold maxLen; omega) (by rw [h3s]; omega) hbsr ?_)
    intro v6 w6 hown6 hgr6 hat6
    obtain ⟨a6, c6, rfl⟩ := Dt.row_form hown6
    obtain ⟨g1, g2⟩ := Rd.Pw.push (x := [32, 46, 32]) HPJ.out.hp HPJ.out.row hPb hbsr (by
     have e : Lib.strCells ⟨#[32, 46, 32]⟩ = Lib.byteCells [32, 46, 32] := by rw [Lib.strCells_eq]
     rw [e] at hown6
     exact hown6) hgr6 hat6
    have p1 := g2.cell 0 rfl
    have f1 := g2.frz 0
    obtain ⟨w7, hw7⟩ : ∃ w7, w6.setCell ⟨P, 0, none⟩ (.slice a6 (AC.length + 3) c6) = w7 := ⟨_, rfl⟩
    have g1' : Rd.Pw base P wr (.slice aj AC.length cj) w7 (AC ++ [32, 46, 32]) (.slice a6 (AC.length + 3) c6) := by rw [← hw7]; exact g1
    have hp7 := HPJ.out.trans g1'
    obtain ⟨hX7, hsx7, hrp7⟩ := HNF.out w7 hp7.kp
    obtain ⟨y0, y1, y2, y3, y4, y5⟩ := hsx7 g o d0 _ _ _ HFG.out.1 HFG.out.2 HSX.out
    have x5' := hX7.cell 5 rfl
    have hc := HIZ.out.1 F base P (AC ++ [32, 46, 32]) _ _ _ _ w7 HIZ.out.2.1 HIZ.out.2.2 (hrp7 d0 _ _ _ HRZ.out) HFF.out hp7.again hPb (by have := g1'.kp.size; omega) (by have h3 := HHL.out; have h4 := congrArg List.length HAC.out; rw [Rd.txtt] at h3; simp only [List.length_append, List.length_cons, List.length_nil] at h3 h4 ⊢; omega)
    have HP7 := Lib.hid hp7
    have HS7 : Hid (base ≤ w7.heap.size) := by have := g1'.kp.size; show _ ≤ _; omega
    clear hown6 hgr6 hat6 g1 g2 g1' hp7 hX7 hsx7 hrp7 hlen hrowr hbsr p0 x5 h3s
    go_wp2_with fail
    refine hc.mono ?_
    rintro e w8 ⟨rfl, v8, hp8⟩
    have hcw := pword_any 2 0 0 ⟨#[]⟩ [41] psign2 base P (AC ++ [32, 46, 32] ++ Rd.txt d0) w8 v8 hp8.again hPb (by have := HS7.out; have := hp8.kp.size; omega) (by have h3 := HHL.out; have h4 := congrArg List.length HAC.out; rw [Rd.txtt] at h3; simp only [List.length_append, List.length_cons, List.length_nil] at h3 h4 ⊢; omega)
    have HP8 := Lib.hid (HP7.out.trans hp8)
    clear hc hp8 y0 y1 y2 y3 y4 y5 x5' hw7 p1 f1
    go_wp2_with fail
    refine hcw.mono ?_
    rintro e w9 ⟨rfl, v9, hp9⟩
    have HE : Hid (Rd.PutP base P (acc ++ (sg ++ Rd.txts l ++ Rd.txtt (d0 :: tr) ++ [41])) v0 w (.returned (.tuple #[])) w9) := ⟨rfl, v9, by
     have := Rd.Pw.from HB1.out (HP8.out.trans hp9)
     rw [← HAC.out] at this
     rw [Rd.txtt]
     simp only [List.append_assoc, List.cons_append, List.nil_append] at this ⊢
     exact this⟩
    clear hcw hp9
    go_wp2
    refine bodyPost_ret (v := .tuple #[]) (by simp [results, Try.results20, go_sem, *]) rfl ?_
    exact HE.out
namespace Rd
open Dt
theorem single_kind {d : D} (h : single d = true) : d.k = 1 ∨ d.k = 2 ∨ d.k = 3 ∨ d.k = 4 ∨ d.k = 5 ∨ d.k = 6 ∨ d.k = 7 ∨ d.k = 8 := by
 cases d
 rename_i k n s m l t
 show k = 1 ∨ k = 2 ∨ k = 3 ∨ k = 4 ∨ k = 5 ∨ k = 6 ∨ k = 7 ∨ k = 8
 by_cases h8 : k = 1 ∨ k = 2 ∨ k = 3 ∨ k = 4 ∨ k = 5 ∨ k = 6 ∨ k = 7 ∨ k = 8
 ·exact h8
 ·unfold single at h
  simp only at h
  rw [if_neg (by omega), if_neg (by omega), if_neg (by omega), if_neg (by omega), if_neg (by omega), if_neg (by omega), if_neg (by omega)] at h
  cases h
theorem short_not6 {k : Int} (h : k ≠ 6) (l : List D) : shortL k l = 0 := (short_cases k l).elim id (fun e => absurd e.1 h)
mutual
theorem puts : ∀ d : D, PutIs d
 | .mk k n s m l t => by
  intro F base P acc v0 vm vl vt w hW hFi hR hF hP hPb hb hl
  have hL := putsL l
  have hT := putsL t
  obtain ⟨hs1, hfl, hft⟩ := fine_parts hFi
  have hsz := single_s hs1
  have hwl : ∀ x ∈ l, Wf x := fun x hx => by obtain ⟨j, hj, rfl⟩ := List.getElem_of_mem hx; exact Wfs.at (wf_l hW) j hj
  have hwt : ∀ x ∈ t, Wf x := fun x hx => by obtain ⟨j, hj, rfl⟩ := List.getElem_of_mem hx; exact Wfs.at (wf_t hW) j hj
  have hln := wf_len hW
  have hn : -9223372036854775808 ≤ n ∧ n ≤ 9223372036854775807 := by rw [Wf] at hW; exact hW.1
  have hil : ∀ x ∈ l, PutIs x ∧ Wf x ∧ Fine x := fun x hx => ⟨hL x hx, hwl x hx, hfl x hx⟩
  have hit : ∀ x ∈ t, PutIs x ∧ Wf x ∧ Fine x := fun x hx => ⟨hT x hx, hwt x hx, hft x hx⟩
  have hsh6 : ∀ h : k ≠ 6, shortL k l = 0 := fun h => short_not6 h l
  simp only [D.k, D.n, D.s]
  rw [txt] at hl ⊢
  rcases single_kind hs1 with e | e | e | e | e | e | e | e
  all_goals (have e' : k = _ := e; subst e')
  ·rw [if_neg (by rw [hsh6 (by decide)]; decide), if_pos (by decide)] at hl ⊢
   exact put_leaf1 n s m l t base P acc v0 vm vl vt w hn hsz hR hP hPb hb hl
  ·rw [if_neg (by rw [hsh6 (by decide)]; decide), if_pos (by decide)] at hl ⊢
   exact put_leaf2 n s m l t base P acc v0 vm vl vt w hn hsz hR hP hPb hb hl
  ·rw [if_neg (by rw [hsh6 (by decide)]; decide), if_pos (by decide)] at hl ⊢
   exact put_leaf3 n s m l t base P acc v0 vm vl vt w hn hsz hR hP hPb hb hl
  ·rw [if_neg (by rw [hsh6 (by decide)]; decide), if_pos (by decide)] at hl ⊢
   exact put_leaf4 n s m l t base P acc v0 vm vl vt w hn hsz hR hP hPb hb hl
  ·rw [if_neg (by rw [hsh6 (by decide)]; decide), if_pos (by decide)] at hl ⊢
   exact put_leaf5 n s m l t base P acc v0 vm vl vt w hn hsz hR hP hPb hb hl
  ·rcases short_cases 6 l with h0 | ⟨-, h4, h7, y, z, rfl, -, -⟩
   ·rw [if_neg (by rw [h0]; decide), if_neg (by decide)] at hl ⊢
    exact put_list6 n s m l t hil hit h0 hln base P acc v0 vm vl vt w hR hF hP hPb hb hl
   ·have hz := hil z (by simp)
    rw [if_pos (by omega), txt2, txt1] at hl ⊢
    rw [List.length_append] at hl
    obtain h | h | h | h : shortL 6 [y, z] = 4 ∨ shortL 6 [y, z] = 5 ∨ shortL 6 [y, z] = 6 ∨ shortL 6 [y, z] = 7 := by omega
    ·rw [h] at hl ⊢
     exact put_short4 n s m y z t hz.1 hz.2.1 hz.2.2 h base P acc v0 vm vl vt w hR hF hP hPb hb hl
    ·rw [h] at hl ⊢
     exact put_short5 n s m y z t hz.1 hz.2.1 hz.2.2 h base P acc v0 vm vl vt w hR hF hP hPb hb hl
    ·rw [h] at hl ⊢
     exact put_short6 n s m y z t hz.1 hz.2.1 hz.2.2 h base P acc v0 vm vl vt w hR hF hP hPb hb hl
    ·rw [h] at hl ⊢
     exact put_short7 n s m y z t hz.1 hz.2.1 hz.2.2 h base P acc v0 vm vl vt w hR hF hP hPb hb hl
  ·rw [if_neg (by rw [hsh6 (by decide)]; decide), if_neg (by decide)] at hl ⊢
   exact put_list7 n s m l t hil hit (hsh6 (by decide)) hln base P acc v0 vm vl vt w hR hF hP hPb hb hl
  ·rw [if_neg (by rw [hsh6 (by decide)]; decide), if_neg (by decide)] at hl ⊢
   exact put_list8 n s m l t hil hit (hsh6 (by decide)) hln base P acc v0 vm vl vt w hR hF hP hPb hb hl
theorem putsL : ∀ l : List D, ∀ x ∈ l, PutIs x
 | [], x, hx => by cases hx
 | d :: r, x, hx => by
  have h1 := puts d
  have h2 := putsL r
  rcases List.mem_cons.1 hx with rfl | hx
  ·exact h1
  ·exact h2 x hx
end
end Rd
end Go.Proofs.Ytcopdfihaheplaa
namespace Go.Proofs.Ytcopdfihaheplaa
open Go.RowKit
attribute [local go_sem] Oper.semAt_some
set_option maxRecDepth 100000 in
theorem rdConv_bytes {w : World} {base : Nat} {a : Option Addr} {c : Nat} (l : List UInt8) (h : w.ownsRow base 5 1 (.slice a l.length c) l.length (Lib.byteCells l)) :
  (convert 53 9 (.slice a l.length c)).run Try.prog w = .ok (.string ⟨l.toArray⟩) w := by
 have h0 := h
 obtain ⟨_, h1⟩ := h
 rcases h1 with ⟨e, hn⟩ | ⟨g, cap, cur, e, _, _, _, _, _, _⟩
 ·have : l = [] := List.eq_nil_of_length_eq_zero hn
  subst this
  cases e
  have := run_convert_bytes_nil (P := Try.prog) w 53 5 Try.underlying53 Try.underlying5 0 0 9 Try.underlying9
  exact this
 ·cases e
  have hr := run_convert_bytes_arg (P := Try.prog) w 53 5 Try.underlying53 Try.underlying5 g 0 l.length c (l.map fun c => (c.toNat : Int)) (by simp) (fun i hi => by
   rw [Nat.zero_add, h0.cellAt i (by omega)]
   simp [Lib.byteCells, List.getD, List.getElem?_eq_getElem hi]) 9 Try.underlying9
  rw [hr]
  congr 2
  unfold strOfNums
  rw [List.map_map]
  congr 2
  conv => rhs; rw [← List.map_id l]
  apply List.map_congr_left
  intro c _
  simp [Function.comp]
namespace Rd
open Dt
def pr (d : D) : List UInt8 × Int := if check d ≠ 0 then ([], check d) else if 16384 < (txt d).length then ([], 3) else (txt d, 0)
def PrV (R : List UInt8 × Int) : Value := .tuple #[.string ⟨R.1.toArray⟩, .int .i64 R.2]
end Rd
set_option maxRecDepth 100000 in
set_option maxHeartbeats 8000000 in
theorem rdPrint_any {F : Nat → Prop} (x : Dt.D) (vm vl vt : Value) (w : World) (hW : Dt.Wf x) (hR : Dt.Rep F w x vm vl vt) :
  Calls Try.prog 9 #[.agg #[.int .i64 x.k, .int .i64 x.n, .string x.s, vm, vl, vt]] w fun e w' => e = .returned (Rd.PrV (Rd.pr x)) ∧ Below w.heap.size w w' := by
 have hR0 : Dt.Rep (fun k => k < w.heap.size) w x vm vl vt := Dt.Rep.mono (fun b _ hb => hb) x hR
 obtain ⟨b1, m1, p1, b2, m2, p2, b3, m3, p3, rfl, rfl, rfl⟩ := hR.forms
 obtain ⟨w1, hw1⟩ : ∃ w1, w.alloc (.cells #[.int .i64 x.k, .int .i64 x.n, .string x.s, .slice b1 m1 p1, .slice b2 m2 p2, .slice b3 m3 p3] 25) = w1 := ⟨_, rfl⟩
 obtain ⟨hb1, hs1⟩ := new_below hw1
 have hX1 := Hp.new hw1
 have hck := dCheck_any x _ _ _ w1 hW (hR.below hb1)
 have HR1 := Lib.hid (hR0.below hb1)
 have HB1 := Lib.hid hb1
 have HX1 := Lib.hid hX1
 have HW := Lib.hid hW
 have HS1 := Lib.hid hs1
 obtain ⟨CK, hCK⟩ : ∃ CK, Dt.check x = CK := ⟨_, rfl⟩
 rw [hCK] at hck
 have HCK := Lib.hid hCK
 have x0 := hX1.cell 0 rfl
 have x1 := hX1.cell 1 rfl
 have x2 := hX1.cell 2 rfl
 have x3 := hX1.cell 3 rfl
 have x4 := hX1.cell 4 rfl
 have x5 := hX1.cell 5 rfl
 clear hX1 hb1 hs1 hR hR0 hW hCK
 by_cases h0 : CK = 0
 case neg =>
  have h1 : (CK != 0) = true := by simpa using h0
  have HE : Hid (Rd.pr x = ([], CK)) := by show _ = _; unfold Rd.pr; rw [HCK.out, if_pos h0]
  clear h0
  go_enter Try.func9, Try.ntmps9
  go_wp2_with fail
  refine hck.mono ?_
  rintro e w2 ⟨rfl, hb2⟩
  have HB2 : Hid (Below w.heap.size w w2) := HB1.out.trans (hb2.mono HB1.out.size)
  clear hck hb2 hw1 x0 x1 x2 x3 x4 x5
  go_wp2
  refine bodyPost_ret (v := .tuple #[.string ⟨#[]⟩, .int .i64 CK]) (by simp [results, Try.results9, go_sem, *]) rfl ?_
  exact ⟨by rw [HE.out]; rfl, HB2.out⟩
 subst h0
 have h1 : ((0 : Int) != 0) = false := rfl
 go_enter Try.func9, Try.ntmps9
 go_upto_region 4 with fail
 refine hck.mono ?_
 rintro e w2 ⟨rfl, hb2⟩
 have hX2 := HX1.out.below hb2
 have HX2 := Lib.hid hX2
 have HR2 := Lib.hid (HR1.out.below hb2)
 have HB2 : Hid (Below w.heap.size w w2) := HB1.out.trans (hb2.mono HB1.out.size)
 have HS2 : Hid (w.heap.size < w2.heap.size) := by have := hb2.size; have := HS1.out; show _ < _; omega
 clear hck hb2 hw1 x0 x1 x2 x3 x4 x5 hX2
 go_upto_region 4 with fail
 obtain ⟨P, hP⟩ : ∃ P, w2.heap.size = P := ⟨_, rfl⟩
 obtain ⟨w3, hw3⟩ : ∃ w3, w2.alloc (.cells #[.slice none 0 0] 55) = w3 := ⟨_, rfl⟩
 obtain ⟨hb3, hs3⟩ := new_below hw3
 have hP3 := Hp.new hw3
 rw [hP] at hP3 hs3
 have hX3 := HX2.out.below hb3
 have hlen := Rd.txt_len HCK.out
 have hc := Rd.puts x (fun k => k < w.heap.size) (P + 1) P [] (.slice none 0 0) _ _ _ w3 HW.out (Rd.fine_of HCK.out) (HR2.out.below hb3) (fun k hk => by have := HS2.out; omega) (Rd.Pw.start hP3 (World.ownsRow_nil _ _ _ _)) (Nat.lt_succ_self P) (by omega) (by rw [List.length_nil]; omega)
 have HB3 : Hid (Below w.heap.size w w3) := HB2.out.trans (hb3.mono HB2.out.size)
 have HS3 : Hid (w3.heap.size = P + 1 ∧ w.heap.size < P) := ⟨hs3, by have := HS2.out; omega⟩
 have x0 := hX3.cell 0 rfl
 have x1 := hX3.cell 1 rfl
 have x2 := hX3.cell 2 rfl
 have x3 := hX3.cell 3 rfl
 have x4 := hX3.cell 4 rfl
 have x5 := hX3.cell 5 rfl
 clear hb3 hs3 hP3 hX3 hlen
 go_wp2_with fail
 refine hc.mono ?_
 rintro e w4 ⟨rfl, v4, hp4⟩
 rw [List.nil_append] at hp4
 have hr4 := hp4.row
 have hpp := hp4.hp
 obtain ⟨TX, hTX⟩ : ∃ TX, Rd.txt x = TX := ⟨_, rfl⟩
 rw [hTX] at hr4
 obtain ⟨a4, c4, rfl⟩ := Dt.row_form hr4
 have HB4 : Hid (Below w.heap.size w w4) := HB3.out.trans (hp4.kp.to_below (fun k e => e.elim (fun e => by have := HS3.out; omega) (fun e => by cases e)) (by have := HS3.out; omega))
 have hcv := rdConv_bytes TX hr4
 have p0 := hpp.cell 0 rfl
 have HTX := Lib.hid hTX
 clear hc hp4 hr4 hpp hTX hw3 x0 x1 x2 x3 x4 x5
 by_cases hl : 16384 < TX.length
 ·have hli : (16384 : Int) < (TX.length : Int) := by omega
  have HE : Hid (Rd.pr x = ([], 3)) := by show _ = _; unfold Rd.pr; rw [HCK.out, if_neg (by decide), HTX.out, if_pos hl]
  clear hcv hl
  go_wp2
  refine bodyPost_ret (v := .tuple #[.string ⟨#[]⟩, .int .i64 3]) (by simp [results, Try.results9, go_sem, *]) rfl ?_
  exact ⟨by rw [HE.out]; rfl, HB4.out⟩
 ·have hli : ¬ (16384 : Int) < (TX.length : Int) := by omega
  have HE : Hid (Rd.pr x = (TX, 0)) := by show _ = _; unfold Rd.pr; rw [HCK.out, if_neg (by decide), HTX.out, if_neg hl]
  clear hl
  go_wp2
  refine bodyPost_ret (v := .tuple #[.string ⟨TX.toArray⟩, .int .i64 0]) (by simp [results, Try.results9, go_sem, *]) rfl ?_
  exact ⟨by rw [HE.out]; rfl, HB4.out⟩
end Go.Proofs.Ytcopdfihaheplaa
namespace Go.Proofs.Ytcopdfihaheplaa
open Go.RowKit
attribute [local go_sem] Oper.semAt_some
namespace Rd
open Dt
theorem rdCat (x y : List UInt8) (hx : x.length ≤ 8388608) (hy : y.length ≤ 8388608) (w : World) : (Op.stringOp .add ⟨x.toArray⟩ ⟨y.toArray⟩).run Try.prog w = .ok (.string ⟨(x ++ y).toArray⟩) w :=
 run_string_add_lists w x y (by omega) (by omega)
end Rd
end Go.Proofs.Ytcopdfihaheplaa
namespace Go.Proofs.Ytcopdfihaheplaa
open Go.RowKit
namespace Rd
open Dt Lx
def awS : ByteArray := ⟨#[40, 97, 32, 46, 32, 40, 98, 32, 46, 32, 99, 41, 41]⟩
def awT : ByteArray := ⟨#[40, 97, 32, 46, 32, 98, 32, 99, 41]⟩
def awD : D := .mk 7 0 ⟨#[]⟩ [] [.mk 5 0 ⟨#[97]⟩ [] [] [], .mk 5 0 ⟨#[98]⟩ [] [] []] [.mk 5 0 ⟨#[99]⟩ [] [] []]
set_option maxRecDepth 100000 in
theorem aw_one : one awS.data.toList = (awD, 0) := by kernel_rfl
set_option maxRecDepth 100000 in
theorem aw_read : read awT.data.toList = ([], 7, 40) := by kernel_rfl
set_option maxRecDepth 100000 in
theorem aw_pr : pr awD = ([40, 97, 32, 98, 32, 46, 32, 99, 41], 0) := by kernel_rfl
end Rd
end Go.Proofs.Ytcopdfihaheplaa
namespace Go.Proofs.Ytcopdfihaheplaa
open Go.RowKit
attribute [local go_sem] Oper.semAt_some
theorem Rd.aw_wf : Dt.Wf Rd.awD := by
 unfold Rd.awD
 simp [Dt.Wf, Dt.Wfs, ByteArray.size]
set_option maxRecDepth 100000 in
set_option maxHeartbeats 8000000 in
theorem rdAwake_any (w : World) :
  Calls Try.prog 7 #[] w fun e w' => e = .returned (.bool true) ∧ Below w.heap.size w w' := by
 have h1 : Calls Try.prog 10 #[.string ⟨#[40, 97, 32, 46, 32, 40, 98, 32, 46, 32, 99, 41, 41]⟩] w (Rd.OnePost (Rd.one Rd.awS.data.toList) w) := readOne_any Rd.awS w (by decide)
 rw [Rd.aw_one] at h1
 go_enter Try.func7, Try.ntmps7
 go_wp2_with fail
 refine h1.mono ?_
 rintro e w1 ⟨vm, vl, vt, rfl, hr1, hb1⟩
 obtain ⟨b1, m1, p1, b2, m2, p2, b3, m3, p3, rfl, rfl, rfl⟩ := hr1.forms
 simp only at hr1 ⊢
 obtain ⟨d, hd⟩ : ∃ d, Rd.awD = d := ⟨_, rfl⟩
 have hwf := Rd.aw_wf
 have hpr := Rd.aw_pr
 rw [hd] at hr1 hwf hpr ⊢
 obtain ⟨w2, hw2⟩ : ∃ w2, w1.alloc (.cells #[.int .i64 d.k, .int .i64 d.n, .string d.s, .slice b1 m1 p1, .slice b2 m2 p2, .slice b3 m3 p3] 25) = w2 := ⟨_, rfl⟩
 obtain ⟨hb2, hs2⟩ := new_below hw2
 have hX2 := Hp.new hw2
 have hp := rdPrint_any d _ _ _ w2 hwf (hr1.below hb2)
 rw [hpr, show Rd.PrV ([40, 97, 32, 98, 32, 46, 32, 99, 41], 0) = .tuple #[.string ⟨#[40, 97, 32, 98, 32, 46, 32, 99, 41]⟩, .int .i64 0] from rfl] at hp
 have HB2 : Hid (Below w.heap.size w w2) := hb1.trans (hb2.mono hb1.size)
 obtain ⟨X, hX⟩ : ∃ X, w1.heap.size = X := ⟨_, rfl⟩
 rw [hX] at hX2
 have x0 := hX2.cell 0 rfl
 have x1 := hX2.cell 1 rfl
 have x2 := hX2.cell 2 rfl
 have x3 := hX2.cell 3 rfl
 have x4 := hX2.cell 4 rfl
 have x5 := hX2.cell 5 rfl
 clear h1 hr1 hb1 hb2 hs2 hX2 hwf hpr hd
 go_wp2_with fail
 refine hp.mono ?_
 rintro e w3 ⟨rfl, hb3⟩
 have HB3 : Hid (Below w.heap.size w w3) := HB2.out.trans (hb3.mono HB2.out.size)
 have h3 : Calls Try.prog 14 #[.string ⟨#[40, 97, 32, 46, 32, 98, 32, 99, 41]⟩] w3 (Rd.ReadPost (Rd.read Rd.awT.data.toList) w3) := readRead_any Rd.awT w3 (by decide)
 rw [Rd.aw_read] at h3
 clear hp hb3 hw2 x0 x1 x2 x3 x4 x5
 go_wp2_with fail
 refine h3.mono ?_
 rintro e w4 ⟨a, c, fs, rfl, -, -, hb4⟩
 have HB4 : Hid (Below w.heap.size w w4) := HB3.out.trans (hb4.mono HB3.out.size)
 clear h3 hb4
 go_wp2
 go_ret
 exact ⟨rfl, HB4.out⟩
end Go.Proofs.Ytcopdfihaheplaa
namespace Go.Proofs.Ytcopdfihaheplaa
open Go.RowKit
attribute [local go_sem] Oper.semAt_some
namespace Rd
open Dt Lx
theorem one_ok {s : List UInt8} {d : D} (h : one s = (d, 0)) : (∃ p : Nat × D, (read s).1 = [p] ∧ p.2 = d ∧ (read s).2.2 = 0) := by
 unfold one oneR at h
 split at h
 ·rename_i h0
  exact absurd (Prod.mk.inj h).2 h0
 ·rename_i h0
  split at h
  ·rename_i p hp
   exact ⟨p, hp, (Prod.mk.inj h).1, Classical.byContradiction h0⟩
  ·exact absurd (Prod.mk.inj h).2 (by decide)
theorem read_ok {s : List UInt8} (h : (read s).2.2 = 0) : (lex s).2.2 = 0 := by
 apply Classical.byContradiction
 intro h0
 unfold read at h
 rw [if_pos h0] at h
 exact h0 h
theorem res_rest : ∀ (f : Nat) (ts : List PTok), ts.length ≤ 4096 → Vs ts → WR (pd f ts) := fun f ts h1 h2 => (res_wf f).1 ts h1 h2
theorem rf_all : ∀ (f : Nat) (ts : List PTok) (acc : List (Nat × D)), ts.length ≤ 4096 → Vs ts → (∀ p ∈ acc, check p.2 = 0 ∧ Wf p.2) → ∀ p ∈ (rf f ts acc).1, check p.2 = 0 ∧ Wf p.2
 | 0, ts, acc, _, _, h => by rw [rf]; exact h
 | f + 1, [], acc, _, _, h => by rw [rf]; exact h
 | f + 1, t :: r, acc, hl, hv, h => by
  rw [rf]
  split
  ·intro p hp; cases hp
  have hw := res_rest (2 * (r.length + 1)) (t :: r) hl hv
  have hle := (res_len (2 * (r.length + 1))).1 (t :: r) r.length (by simp)
  split
  ·rename_i d rest hp
   rw [hp] at hw hle
   split
   ·rename_i hc
    have hle' : rest.length ≤ r.length := hle
    simp only [List.length_cons] at hl
    refine rf_all f rest _ (by omega) hw.2 (fun p hp => ?_)
    rcases List.mem_append.1 hp with hp | hp
    ·exact h p hp
    ·rw [List.mem_singleton.1 hp]; exact ⟨hc, hw.1⟩
   ·intro p hp; cases hp
  ·intro p hp; cases hp
  ·intro p hp; cases hp
theorem read_all (s : List UInt8) : ∀ p ∈ (read s).1, check p.2 = 0 ∧ Wf p.2 := by
 unfold read
 split
 ·intro p hp; cases hp
 ·rename_i h0
  have h0' : (lex s).2.2 = 0 := Classical.byContradiction h0
  exact rf_all _ _ _ (lex_few s _ (Prod.ext rfl (Prod.ext (lex_zeroR s h0') h0'))) (lex_vals s) (fun p hp => by cases hp)
theorem cut_at (s : List UInt8) (L : List PTok) (h : lex s = (L, 0, 0)) {p : Nat × D} (hr : (read s).1 = [p]) (n : Nat) (hn : n + 1 < L.length) :
  L[n].to ≤ s.length ∧ ∃ a, read (s.take L[n].to) = ([], a, 41) ∧ L[0].at_ ≤ a ∧ a < L[n].to := by
 have hap := apart_from (lex_apart s _ h).1 L[n] (List.getElem_mem _)
 have e : L = L.take (n + 1) ++ L[n + 1] :: L.drop (n + 2) := by
  rw [← List.drop_eq_getElem_cons hn, List.take_append_drop]
 have hl : (L.take (n + 1)).length = n + 1 := by rw [List.length_take]; omega
 have ht : (s.take L[n].to).length = L[n].to := by rw [List.length_take]; omega
 obtain ⟨a, h1, h2, h3⟩ := read_cut s (s.take L[n].to) (s.drop L[n].to) (L.take (n + 1)) L[n + 1] (L.drop (n + 2)) (List.take_append_drop _ _).symm (by rw [← e]; exact h) (by intro e; rw [e] at hl; simp at hl) (fun p hp => by
  rw [ht]
  rw [List.getLast?_eq_getElem?, hl, Nat.add_sub_cancel, List.getElem?_take_of_lt (by omega), List.getElem?_eq_getElem (by omega)] at hp
  cases hp; rfl) hr
 refine ⟨hap.2.2, a, h1, h2 L[0] ?_, by rw [ht] at h3; exact h3⟩
 rw [List.head?_eq_getElem?, List.getElem?_take_of_lt (by omega), List.getElem?_eq_getElem]
theorem lex_nilR (t : List UInt8) (h : (lex t).2.2 ≠ 0) : (lex t).1 = [] := by
 unfold lex at *
 split
 ·rfl
 ·rename_i h1
  rw [if_neg h1] at h
  split
  ·rfl
  ·rename_i h2
   rw [if_neg h2] at h
   rw [← words_norm] at h ⊢
   unfold app at *
   split
   ·rename_i h0; rw [if_pos h0] at h; exact absurd rfl h
   ·rfl
theorem words_formR {s : List UInt8} {w w' : World} {e : Ending} (h : WordsPost (lex s) w e w') : ∃ a c, e = .returned (.tuple #[.slice a (lex s).1.length c, .int .i64 ((lex s).2.1 : Int), .int .i64 (lex s).2.2]) ∧ (a = none ∧ (lex s).1 = [] ∨ ∃ g, a = some ⟨g, 0, none⟩ ∧ Src w' g (lex s).1) ∧ Below w.heap.size w w' := by
 obtain ⟨hb, ⟨hc, v, he, ho⟩ | ⟨hc, he⟩⟩ := h
 ·rcases ho.2 with ⟨rfl, hz⟩ | ⟨g, cap, cur, rfl, _, _, h1, h2, _⟩
  ·refine ⟨none, 0, ?_, .inl ⟨rfl, List.eq_nil_of_length_eq_zero hz⟩, hb⟩
   rw [he, hc, lex_zeroR s hc, hz]; rfl
  ·refine ⟨_, cap, ?_, .inr ⟨g, rfl, src_of_row ho⟩, hb⟩
   rw [he, hc, lex_zeroR s hc]; rfl
 ·have hn : (lex s).1 = [] := by
   have := lex_nilR s hc
   exact this
  refine ⟨none, 0, ?_, .inl ⟨rfl, hn⟩, hb⟩
  rw [he, hn]; rfl
end Rd
set_option maxRecDepth 100000 in
set_option maxHeartbeats 8000000 in
theorem ReadCut_walk (s : ByteArray) (k1 : Int) (w : World) (hs : s.size ≤ 9223372036854775807) (hk1 : (Lit.int .u8 k1).wf = true) :
  Calls Try.prog 5 #[.string s, .int .u8 k1] w fun e w' => e = .returned (.bool true) ∧ Below w.heap.size w w' := by
 have b1 : 0 ≤ k1 ∧ k1 ≤ 255 := by simpa [Lit.wf, IntKind.min, IntKind.max, IntKind.signed, IntKind.bits] using hk1
 clear hk1
 obtain ⟨m, rfl⟩ : ∃ m : Nat, k1 = (m : Int) := ⟨k1.toNat, by omega⟩
 have hone := readOne_any s w hs
 obtain ⟨R, hR⟩ : ∃ R, Rd.one s.data.toList = R := ⟨_, rfl⟩
 rw [hR] at hone
 obtain ⟨d, c⟩ := R
 have HW := fun wq => (WordsR_any s wq hs).mono fun e w' h => Rd.words_formR h
 obtain ⟨L, hL⟩ : ∃ L, (Lx.lex s.data.toList).1 = L := ⟨_, rfl⟩
 obtain ⟨P, hP⟩ : ∃ P : Int, ((Lx.lex s.data.toList).2.1 : Int) = P := ⟨_, rfl⟩
 obtain ⟨C, hC⟩ : ∃ C : Int, (Lx.lex s.data.toList).2.2 = C := ⟨_, rfl⟩
 simp only [hL, hP, hC] at HW
 replace HW := Lib.hid HW
 go_enter Try.func5, Try.ntmps5
 go_wp2_with fail
 refine hone.mono ?_
 rintro e w1 ⟨vm, vl, vt, rfl, hr1, hb1⟩
 obtain ⟨b1, m1, p1, b2, m2, p2, b3, m3, p3, rfl, rfl, rfl⟩ := hr1.forms
 simp only at hr1 ⊢
 obtain ⟨w2, hw2⟩ : ∃ w2, w1.alloc (.cells #[.int .i64 d.k, .int .i64 d.n, .string d.s, .slice b1 m1 p1, .slice b2 m2 p2, .slice b3 m3 p3] 25) = w2 := ⟨_, rfl⟩
 obtain ⟨hb2, hs2⟩ := new_below hw2
 have hX2 := Hp.new hw2
 have HR2 := Lib.hid (hr1.below hb2)
 have HB2 : Hid (Below w.heap.size w w2) := hb1.trans (hb2.mono hb1.size)
 obtain ⟨X, hX⟩ : ∃ X, w1.heap.size = X := ⟨_, rfl⟩
 rw [hX] at hX2
 clear hone hr1 hb1 hb2 hs2
 go_wp2_with fail
 refine (HW.out _).mono ?_
 rintro e w3 ⟨a, cp, rfl, hsrc, hb3⟩
 have HB3 : Hid (Below w.heap.size w w3) := HB2.out.trans (hb3.mono HB2.out.size)
 have hX3 := Lib.hid (hX2.below hb3)
 have HR3 := Lib.hid (HR2.out.below hb3)
 have HS3 := Lib.hid hsrc
 clear HW hb3 hX2 HR2 HB2 hsrc
 by_cases hc : c = 0
 case neg =>
  have hcb : (c != 0) = true := by simpa using hc
  have hcb2 : (c == 0) = false := by simpa using hc
  clear hR hL hP hC HS3 HR3 hX3
  go_wp2_with fail
  refine (rdAwake_any _).mono ?_
  rintro e w4 ⟨rfl, hb4⟩
  have HB4 : Hid (Below w.heap.size w w4) := HB3.out.trans (hb4.mono HB3.out.size)
  clear hb4
  go_wp2_with fail
  refine (rdAwake_any _).mono ?_
  rintro e w5 ⟨rfl, hb5⟩
  have HB5 : Hid (Below w.heap.size w w5) := HB4.out.trans (hb5.mono HB4.out.size)
  clear hb5
  go_wp2
  go_ret
  exact ⟨rfl, HB5.out⟩
 subst hc
 obtain ⟨p, hr1, hp2, hre⟩ := Rd.one_ok hR
 have hC0 : C = 0 := by rw [← hC]; exact Rd.read_ok hre
 have hP0 : P = 0 := by rw [← hP]; exact_mod_cast Lx.lex_zeroR _ (hC.trans hC0)
 obtain ⟨hck, hwf⟩ := Rd.read_all s.data.toList p (by rw [hr1]; exact List.mem_singleton.2 rfl)
 rw [hp2] at hck hwf
 have hlex : Lx.lex s.data.toList = (L, 0, 0) := Prod.ext hL (Prod.ext (by have := hP.trans hP0; exact_mod_cast this) (hC.trans hC0))
 have HLX : Hid (Lx.lex s.data.toList = (L, 0, 0) ∧ (Rd.read s.data.toList).1 = [p]) := ⟨hlex, hr1⟩
 subst hC0 hP0
 clear hR hL hP hC hr1 hp2 hre hlex
 have HCK : Hid (Dt.check d = 0 ∧ Dt.Wf d) := ⟨hck, hwf⟩
 clear hck hwf
 have hLne : L ≠ [] := by
  rintro rfl
  obtain ⟨h1, h2⟩ := HLX.out
  unfold Rd.read at h2
  rw [h1] at h2
  simp only at h2
  rw [if_neg (by simp), Rd.rf] at h2
  cases h2
 obtain ⟨g, rfl, hsrc⟩ := HS3.out.resolve_left (fun h => hLne h.2)
 obtain ⟨N, hN⟩ : ∃ N, L.length = N := ⟨_, rfl⟩
 have hN1 : 1 ≤ N := by rw [← hN]; exact List.length_pos_iff.2 hLne
 have HNL : Hid (L.length = N ∧ N ≤ 4096) := ⟨hN, by rw [← hN]; exact Lx.lex_few _ _ HLX.out.1⟩
 have HS := Lib.hid hsrc
 rw [hN]
 have t0 : ((N : Int) == 0) = false := beq_eq_false_iff_ne.2 (by omega)
 clear HS3 hsrc hLne hN
 go_wp2_with fail
 refine (rdAwake_any _).mono ?_
 rintro e w4 ⟨rfl, hb4⟩
 have HB4 : Hid (Below w.heap.size w w4) := HB3.out.trans (hb4.mono HB3.out.size)
 have hX4 := hX3.out.below hb4
 have hck := rCheck_any d _ _ _ w4 HCK.out.2 (HR3.out.below hb4)
 rw [HCK.out.1] at hck
 have HS4 : Hid (Rd.Src w4 g L) := HS.out.below hb4
 have x0 := hX4.cell 0 rfl
 have x1 := hX4.cell 1 rfl
 have x2 := hX4.cell 2 rfl
 have x3 := hX4.cell 3 rfl
 have x4 := hX4.cell 4 rfl
 have x5 := hX4.cell 5 rfl
 clear hb4 hX4 hX3 HR3 HS
 go_wp2_with fail
 refine hck.mono ?_
 rintro e w5 ⟨rfl, hb5⟩
 have HB5 : Hid (Below w.heap.size w w5) := HB4.out.trans (hb5.mono HB4.out.size)
 have HS5 : Hid (Rd.Src w5 g L) := HS4.out.below hb5
 clear hb5 hck x0 x1 x2 x3 x4 x5 HS4
 by_cases hN2 : N = 1
 ·subst hN2
  go_wp2
  go_ret
  exact ⟨rfl, HB5.out⟩
 have t1 : ((N : Int) == 1) = false := beq_eq_false_iff_ne.2 (by omega)
 obtain ⟨n, hn⟩ : ∃ n, m % (N - 1) = n := ⟨_, rfl⟩
 have hn1 : n + 1 < N := by have := Nat.mod_lt m (show 0 < N - 1 by omega); omega
 have t2 : wrap64 ((N : Int) - 1) = ((N - 1 : Nat) : Int) := by unfold wrap64; have := HNL.out.2; omega
 have t3 : (m : Int) % ((N - 1 : Nat) : Int) = (n : Int) := by rw [← hn]; simp
 have hnL : n + 1 < L.length := by rw [HNL.out.1]; exact hn1
 obtain ⟨hts, a, hra, ha0, haT⟩ := Rd.cut_at s.data.toList L HLX.out.1 HLX.out.2 n hnL
 obtain ⟨T, hT⟩ : ∃ T, L[n].to = T := ⟨_, rfl⟩
 obtain ⟨A, hA⟩ : ∃ A, L[0].at_ = A := ⟨_, rfl⟩
 have htok := HS5.out.tok n (by omega)
 have htok0 := HS5.out.tok 0 (by omega)
 have c2 := htok.2.2.1
 rw [hT] at c2 hts hra haT
 have z1 := htok0.2.1
 rw [hA] at z1 ha0
 rw [Fx.size_toList] at hts
 obtain ⟨x, hx⟩ : ∃ x, s.extract 0 T = x := ⟨_, rfl⟩
 have hxl : x.data.toList = s.data.toList.take T := by rw [← hx, Lib.extract_data]; simp
 have hrd := readRead_any x w5 (by rw [← hx]; simp; omega)
 rw [hxl, hra] at hrd
 have hti : (T : Int) ≤ (s.size : Int) := by omega
 have HC2 := Lib.hid c2
 have HZ1 := Lib.hid z1
 have HAA : Hid (A ≤ a ∧ a < T) := ⟨ha0, haT⟩
 clear htok htok0 z1 hxl hra hT hA ha0 haT hnL HLX HNL hn HCK
 go_wp2_with fail
 refine hrd.mono ?_
 rintro e w6 ⟨ar, cr, fs, rfl, -, -, hb6⟩
 have HB6 : Hid (Below w.heap.size w w6) := HB5.out.trans (hb6.mono HB5.out.size)
 have HS6 := HS5.out.below hb6
 have c2 : w6.cell? ⟨g, n * 5 + 2, none⟩ = some (.int .i64 (T : Int)) := by rw [hb6.cell (p := ⟨g, n * 5 + 2, none⟩) (block_lt_of_cell HC2.out)]; exact HC2.out
 have z1 : w6.cell? ⟨g, 1, none⟩ = some (.int .i64 (A : Int)) := by
  have := HZ1.out
  rw [show 0 * 5 + 1 = 1 from rfl] at this
  rw [hb6.cell (p := ⟨g, 1, none⟩) (block_lt_of_cell this)]; exact this
 have u1 : (A : Int) ≤ (a : Int) := by have := HAA.out; omega
 have u2 : (a : Int) < (T : Int) := by have := HAA.out; omega
 clear hrd hb6 HS6 HC2 HZ1 HAA HS5
 go_wp2
 go_ret
 exact ⟨rfl, HB6.out⟩
end Go.Proofs.Ytcopdfihaheplaa
namespace Go.Proofs.Ytcopdfihaheplaa
open Go.RowKit
attribute [local go_sem] Oper.semAt_some
namespace Rd
open Dt Lx
def FSrc (w : World) (g : Nat) (fs : List (Nat × D)) : Prop := ∀ i, (h : i < fs.length) → ∃ b1 m1 p1 b2 m2 p2 b3 m3 p3,
 w.cell? ⟨g, i * 7, none⟩ = some (.int .i64 (fs[i].1 : Int)) ∧ w.cell? ⟨g, i * 7 + 1, none⟩ = some (.int .i64 fs[i].2.k) ∧ w.cell? ⟨g, i * 7 + 2, none⟩ = some (.int .i64 fs[i].2.n) ∧ w.cell? ⟨g, i * 7 + 3, none⟩ = some (.string fs[i].2.s) ∧
 w.cell? ⟨g, i * 7 + 4, none⟩ = some (.slice b1 m1 p1) ∧ w.cell? ⟨g, i * 7 + 5, none⟩ = some (.slice b2 m2 p2) ∧ w.cell? ⟨g, i * 7 + 6, none⟩ = some (.slice b3 m3 p3) ∧ Rep (fun _ => True) w fs[i].2 (.slice b1 m1 p1) (.slice b2 m2 p2) (.slice b3 m3 p3)
theorem flatF_at : ∀ (l : List (Nat × Dt.P)) (k : Nat) (h : k < l.length) (i : Nat), i < 7 → (flatF l)[k * 7 + i]? = (cells7 l[k])[i]?
 | [], k, h, _, _ => absurd h (by simp)
 | a :: l, 0, _, i, hi => by
  unfold flatF
  rw [List.flatMap_cons, List.getElem?_append_left (by show _ < (cells7 a).length; simp [cells7, Dt.P.cells]; omega), Nat.zero_mul, Nat.zero_add]
  rfl
 | a :: l, k + 1, h, i, hi => by
  have := flatF_at l k (by simpa using h) i hi
  unfold flatF at this ⊢
  have hl : (cells7 a).length = 7 := by simp [cells7, Dt.P.cells]
  rw [List.flatMap_cons, List.getElem?_append_right (by rw [hl]; omega), hl, show (k + 1) * 7 + i - 7 = k * 7 + i by omega]
  exact this
theorem FSrc.of {w : World} {base : Nat} {a : Option Addr} {n c : Nat} {fs : List (Nat × Dt.P)} {xs : List (Nat × D)} (h : FRow w base (.slice a n c) fs) (hm : fs.map (fun p => (p.1, p.2.d)) = xs) (hn : n = xs.length) :
  (n = 0 ∨ ∃ g, a = some ⟨g, 0, none⟩ ∧ FSrc w g xs) := by
 by_cases h0 : n = 0
 ·exact .inl h0
 right
 rcases h.row.2 with ⟨e1, _⟩ | ⟨g, cap, cur, e1, _⟩
 ·cases e1; exact absurd rfl h0
 ·cases e1
  refine ⟨g, rfl, fun i hi => ?_⟩
  subst hm
  rw [List.length_map] at hi
  have hrep := h.rep fs[i] (List.getElem_mem _)
  obtain ⟨b1, m1, p1, b2, m2, p2, b3, m3, p3, e1, e2, e3⟩ := hrep.forms
  have hc := fun j (hj : j < 7) u (hu : (cells7 fs[i])[j]? = some u) => h.row.cells (g := g) rfl (i * 7 + j) u (by rw [flatF_at fs i hi j hj]; exact hu)
  simp only [Addr.add_mid, Nat.zero_add] at hc
  refine ⟨b1, m1, p1, b2, m2, p2, b3, m3, p3, ?_⟩
  simp only [List.getElem_map]
  refine ⟨hc 0 (by decide) _ rfl, hc 1 (by decide) _ rfl, hc 2 (by decide) _ rfl, hc 3 (by decide) _ rfl, ?_, ?_, ?_, ?_⟩
  ·rw [← e1]; exact hc 4 (by decide) _ rfl
  ·rw [← e2]; exact hc 5 (by decide) _ rfl
  ·rw [← e3]; exact hc 6 (by decide) _ rfl
  ·rw [← e1, ← e2, ← e3]; exact Rep.mono (fun _ _ _ => trivial) _ hrep
theorem FSrc.below {w w' : World} {g : Nat} {xs : List (Nat × D)} (h : FSrc w g xs) (hb : Below w.heap.size w w') : FSrc w' g xs := fun i hi => by
 obtain ⟨b1, m1, p1, b2, m2, p2, b3, m3, p3, c0, c1, c2, c3, c4, c5, c6, hr⟩ := h i hi
 have k := fun (j : Nat) (v : Value) (hc : w.cell? ⟨g, j, none⟩ = some v) => (hb.cell (p := ⟨g, j, none⟩) (block_lt_of_cell hc)).trans hc
 exact ⟨b1, m1, p1, b2, m2, p2, b3, m3, p3, k _ _ c0, k _ _ c1, k _ _ c2, k _ _ c3, k _ _ c4, k _ _ c5, k _ _ c6, hr.below hb⟩
def set7 (w : World) (B : Nat) (a b c d e f g : Value) : World := ((((((w.setCell ⟨B, 0, none⟩ a).setCell ⟨B, 1, none⟩ b).setCell ⟨B, 2, none⟩ c).setCell ⟨B, 3, none⟩ d).setCell ⟨B, 4, none⟩ e).setCell ⟨B, 5, none⟩ f).setCell ⟨B, 6, none⟩ g
theorem hp_set7 {w : World} {B : Nat} {u0 u1 u2 u3 u4 u5 u6 : Value} {t : TypeId} (h : Hp w B #[u0, u1, u2, u3, u4, u5, u6] t) (a b c d e f g : Value) : Hp (set7 w B a b c d e f g) B #[a, b, c, d, e, f, g] t :=
by
 have h0 : Hp (w.setCell ⟨B, 0, none⟩ a) B #[a, u1, u2, u3, u4, u5, u6] t := h.set 0 a
 have h1 : Hp ((w.setCell ⟨B, 0, none⟩ a).setCell ⟨B, 1, none⟩ b) B #[a, b, u2, u3, u4, u5, u6] t := h0.set 1 b
 have h2 : Hp (((w.setCell ⟨B, 0, none⟩ a).setCell ⟨B, 1, none⟩ b).setCell ⟨B, 2, none⟩ c) B #[a, b, c, u3, u4, u5, u6] t := h1.set 2 c
 have h3 : Hp ((((w.setCell ⟨B, 0, none⟩ a).setCell ⟨B, 1, none⟩ b).setCell ⟨B, 2, none⟩ c).setCell ⟨B, 3, none⟩ d) B #[a, b, c, d, u4, u5, u6] t := h2.set 3 d
 have h4 : Hp (((((w.setCell ⟨B, 0, none⟩ a).setCell ⟨B, 1, none⟩ b).setCell ⟨B, 2, none⟩ c).setCell ⟨B, 3, none⟩ d).setCell ⟨B, 4, none⟩ e) B #[a, b, c, d, e, u5, u6] t := h3.set 4 e
 have h5 : Hp ((((((w.setCell ⟨B, 0, none⟩ a).setCell ⟨B, 1, none⟩ b).setCell ⟨B, 2, none⟩ c).setCell ⟨B, 3, none⟩ d).setCell ⟨B, 4, none⟩ e).setCell ⟨B, 5, none⟩ f) B #[a, b, c, d, e, f, u6] t := h4.set 5 f
 exact h5.set 6 g
theorem set7_keep (w : World) (B : Nat) (a b c d e f g : Value) : Keep (fun k => k = B) w (set7 w B a b c d e f g) :=
 (((((((Keep.refl (fun k => k = B) w).setCell rfl 0 a).setCell rfl 1 b).setCell rfl 2 c).setCell rfl 3 d).setCell rfl 4 e).setCell rfl 5 f).setCell rfl 6 g
theorem rf_few : ∀ (f : Nat) (ts : List PTok) (acc : List (Nat × D)), acc.length ≤ 256 → (rf f ts acc).1.length ≤ 256
 | 0, ts, acc, h => by rw [rf]; exact h
 | f + 1, [], acc, h => by rw [rf]; exact h
 | f + 1, t :: r, acc, h => by
  rw [rf]
  split
  ·simp
  split
  ·split
   ·exact rf_few f _ _ (by simp; omega)
   ·simp
  ·simp
  ·simp
theorem read_few (s : List UInt8) : (read s).1.length ≤ 256 := by
 unfold read
 split
 ·simp
 ·exact rf_few _ _ _ (by simp)
theorem read_size {s : List UInt8} (h : (read s).2.2 = 0) : s.length ≤ 16384 := by
 have h1 := read_lex h
 exact (lex_apart s _ (lex_zeroW s h1)).2
theorem read_at (s : List UInt8) : ∀ p ∈ (read s).1, p.1 ≤ s.length := by
 by_cases h : (lex s).2.2 = 0
 ·have hap := apart_from (lex_apart s _ (lex_zeroW s h)).1
  unfold read
  rw [if_neg (by simp [h])]
  exact rf_at s.length _ _ _ (fun p hp => by cases hp) (fun t ht => by have := hap t ht; omega)
 ·unfold read
  rw [if_pos h]
  intro p hp
  cases hp
theorem w64 (x : Int) (h0 : 0 ≤ x) (h1 : x ≤ 1000000) : wrap64 x = x := by unfold wrap64; omega
end Rd
set_option maxRecDepth 100000 in
set_option maxHeartbeats 16000000 in
theorem ReadRows_walk (s t : ByteArray) (w : World) (hs : s.size ≤ 9223372036854775807) (ht : t.size ≤ 9223372036854775807) :
  Calls Try.prog 4 #[.string s, .string t] w fun e w' => e = .returned (.bool true) ∧ Below w.heap.size w w' := by
 have hX := readRead_any s w hs
 have HY := fun wq => readRead_any t wq ht
 have hpl := fun x y p q => Rd.read_ten s.data.toList t.data.toList x y p q
 obtain ⟨RX, hRX⟩ : ∃ RX, Rd.read s.data.toList = RX := ⟨_, rfl⟩
 obtain ⟨RY, hRY⟩ : ∃ RY, Rd.read t.data.toList = RY := ⟨_, rfl⟩
 have HAX := Rd.read_all s.data.toList
 have HAY := Rd.read_all t.data.toList
 rw [hRX] at hX HAX
 simp only [hRX, hRY] at hpl
 simp only [hRY] at HY
 rw [hRY] at HAY
 obtain ⟨xs, px, cx⟩ := RX
 obtain ⟨ys, py, cy⟩ := RY
 have HPL := Lib.hid hpl
 have HAT : Hid (∀ p ∈ ys, p.1 ≤ t.data.toList.length) := fun p hp => Rd.read_at t.data.toList p (by rw [hRY]; exact hp)
 have hfx : xs.length ≤ 256 := by have := Rd.read_few s.data.toList; rw [hRX] at this; exact this
 have hfy : ys.length ≤ 256 := by have := Rd.read_few t.data.toList; rw [hRY] at this; exact this
 have HSX : Hid (cx = 0 → s.size ≤ 16384) := fun e => by have := Rd.read_size (s := s.data.toList) (by rw [hRX]; exact e); rw [Fx.size_toList] at this; exact this
 have HSY : Hid (cy = 0 → t.size ≤ 16384) := fun e => by have := Rd.read_size (s := t.data.toList) (by rw [hRY]; exact e); rw [Fx.size_toList] at this; exact this
 have HRX : Hid (Rd.read s.data.toList = (xs, px, cx)) := hRX
 have HRY : Hid (Rd.read t.data.toList = (ys, py, cy)) := hRY
 replace HY := Lib.hid HY
 replace HAX := Lib.hid HAX
 replace HAY := Lib.hid HAY
 clear hpl hRX hRY
 obtain ⟨nx, hnx⟩ : ∃ nx, xs.length = nx := ⟨_, rfl⟩
 obtain ⟨ny, hny⟩ : ∃ ny, ys.length = ny := ⟨_, rfl⟩
 go_enter Try.func4, Try.ntmps4
 go_wp2_with fail
 refine hX.mono ?_
 rintro e w1 ⟨ax, cpx, fx, rfl, hfx, hmx, hb1⟩
 have HFX := Lib.hid (Rd.FSrc.of hfx hmx rfl)
 have HB1 := Lib.hid hb1
 clear hX hfx hmx hb1
 rw [hnx] at HFX ⊢
 go_wp2_with fail
 refine (HY.out w1).mono ?_
 rintro e w2 ⟨ay, cpy, fy, rfl, hfy, hmy, hb2⟩
 have HFY := Lib.hid (Rd.FSrc.of hfy hmy rfl)
 have HB2 : Hid (Below w.heap.size w w2) := HB1.out.trans (hb2.mono HB1.out.size)
 have HFX2 : Hid (nx = 0 ∨ ∃ g, ax = some ⟨g, 0, none⟩ ∧ Rd.FSrc w2 g xs) := HFX.out.imp id (fun ⟨g, h1, h2⟩ => ⟨g, h1, h2.below hb2⟩)
 clear HY hfy hmy hb2 HB1 HFX
 rw [hny] at HFY ⊢
 by_cases hcx : cx = 0
 case neg =>
  have hcb : (cx != 0) = true := by simpa using hcx
  go_wp2_with fail
  refine (rdAwake_any _).mono ?_
  rintro e w4 ⟨rfl, hb4⟩
  have HB4 : Hid (Below w.heap.size w w4) := HB2.out.trans (hb4.mono HB2.out.size)
  clear hb4
  go_wp2_with fail
  refine (rdAwake_any _).mono ?_
  rintro e w5 ⟨rfl, hb5⟩
  have HB5 : Hid (Below w.heap.size w w5) := HB4.out.trans (hb5.mono HB4.out.size)
  clear hb5
  go_wp2
  go_ret
  exact ⟨rfl, HB5.out⟩
 subst hcx
 by_cases hcy : cy = 0
 case neg =>
  have hcb : (cy != 0) = true := by simpa using hcy
  go_wp2_with fail
  refine (rdAwake_any _).mono ?_
  rintro e w4 ⟨rfl, hb4⟩
  have HB4 : Hid (Below w.heap.size w w4) := HB2.out.trans (hb4.mono HB2.out.size)
  clear hb4
  go_wp2_with fail
  refine (rdAwake_any _).mono ?_
  rintro e w5 ⟨rfl, hb5⟩
  have HB5 : Hid (Below w.heap.size w w5) := HB4.out.trans (hb5.mono HB4.out.size)
  clear hb5
  go_wp2
  go_ret
  exact ⟨rfl, HB5.out⟩
 subst hcy
 have hsx : s.size ≤ 16384 := HSX.out rfl
 have hsy : t.size ≤ 16384 := HSY.out rfl
 have hxn : nx ≤ 256 := by omega
 have hyn : ny ≤ 256 := by omega
 have HNN : Hid (xs.length = nx ∧ ys.length = ny) := ⟨hnx, hny⟩
 clear hfx hfy hnx hny HSX HSY hs ht
 by_cases h256 : 256 < nx + ny
 case pos =>
  have hi : (256 : Int) < (nx : Int) + (ny : Int) := by omega
  have hd : decide ((256 : Int) < (nx : Int) + (ny : Int)) = true := decide_eq_true hi
  go_wp2_with fail
  refine (rdAwake_any _).mono ?_
  rintro e w4 ⟨rfl, hb4⟩
  have HB4 : Hid (Below w.heap.size w w4) := HB2.out.trans (hb4.mono HB2.out.size)
  clear hb4
  go_wp2_with fail
  refine (rdAwake_any _).mono ?_
  rintro e w5 ⟨rfl, hb5⟩
  have HB5 : Hid (Below w.heap.size w w5) := HB4.out.trans (hb5.mono HB4.out.size)
  clear hb5
  go_wp2
  go_ret
  exact ⟨rfl, HB5.out⟩
 have hi1 : ¬ (256 : Int) < (nx : Int) + (ny : Int) := by omega
 by_cases hsz : 16384 ≤ s.size + t.size
 case pos =>
  have hi : (16384 : Int) ≤ (s.size : Int) + (t.size : Int) := by omega
  go_wp2_with fail
  refine (rdAwake_any _).mono ?_
  rintro e w4 ⟨rfl, hb4⟩
  have HB4 : Hid (Below w.heap.size w w4) := HB2.out.trans (hb4.mono HB2.out.size)
  clear hb4
  go_wp2_with fail
  refine (rdAwake_any _).mono ?_
  rintro e w5 ⟨rfl, hb5⟩
  have HB5 : Hid (Below w.heap.size w w5) := HB4.out.trans (hb5.mono HB4.out.size)
  clear hb5
  go_wp2
  go_ret
  exact ⟨rfl, HB5.out⟩
 obtain ⟨sl, rfl⟩ : ∃ sl : List UInt8, s = ⟨sl.toArray⟩ := ⟨s.data.toList, rfl⟩
 obtain ⟨tl, rfl⟩ : ∃ tl : List UInt8, t = ⟨tl.toArray⟩ := ⟨t.data.toList, rfl⟩
 have hsl : (⟨sl.toArray⟩ : ByteArray).size = sl.length := rfl
 have htl : (⟨tl.toArray⟩ : ByteArray).size = tl.length := rfl
 rw [hsl] at hsx hsz
 rw [htl] at hsy hsz
 obtain ⟨nz, hnz⟩ : ∃ nz, nx + ny = nz := ⟨_, rfl⟩
 have hi1 : ¬ (256 : Int) < (nx : Int) + (ny : Int) := by omega
 have hd1 : decide ((256 : Int) < (nx : Int) + (ny : Int)) = false := decide_eq_false hi1
 have hi2 : ¬ (16384 : Int) ≤ (sl.length : Int) + (tl.length : Int) := by omega
 have hd2 : decide ((16384 : Int) ≤ (sl.length : Int) + (tl.length : Int)) = false := decide_eq_false hi2
 have HNZ : Hid (nx + ny = nz ∧ sl.length + tl.length < 16384 ∧ nz ≤ 256) := ⟨hnz, by omega, by omega⟩
 clear hnz h256 hsz
 go_wp2_with fail
 refine (rdAwake_any _).mono ?_
 rintro e w4 ⟨rfl, hb4⟩
 have HB4 : Hid (Below w.heap.size w w4) := HB2.out.trans (hb4.mono HB2.out.size)
 have HFX4 : Hid (nx = 0 ∨ ∃ g, ax = some ⟨g, 0, none⟩ ∧ Rd.FSrc w4 g xs) := HFX2.out.imp id (fun ⟨g, h1, h2⟩ => ⟨g, h1, h2.below hb4⟩)
 have HFY4 : Hid (ny = 0 ∨ ∃ g, ay = some ⟨g, 0, none⟩ ∧ Rd.FSrc w4 g ys) := HFY.out.imp id (fun ⟨g, h1, h2⟩ => ⟨g, h1, h2.below hb4⟩)
 clear hb4 HFX2 HFY
 have cat1 := Rd.rdCat sl [10] (by omega) (by simp) 
 have cat2 := Rd.rdCat (sl ++ [10]) tl (by simp; omega) (by omega)
 have e1 : sl ++ [10] ++ tl = sl ++ 10 :: tl := by simp
 rw [e1] at cat2
 obtain ⟨z, hz⟩ : ∃ z : ByteArray, (⟨(sl ++ 10 :: tl).toArray⟩ : ByteArray) = z := ⟨_, rfl⟩
 have hzl : z.data.toList = sl ++ 10 :: tl := by rw [← hz]
 have hzs : z.size = sl.length + tl.length + 1 := by rw [← hz]; show ((sl ++ 10 :: tl).toArray).size = _; simp; omega
 have HRD := Lib.hid (fun wq => readRead_any z wq (by omega))
 have HWD := Lib.hid (fun wq => (WordsR_any z wq (by omega)).mono fun e w' h => Rd.words_formR h)
 rw [hzl] at HRD HWD
 rw [hz] at cat2
 have hp := HPL.out xs ys px py rfl rfl (by have := HNN.out; have := HNZ.out; omega) (by exact HNZ.out.2.1)
 have HP := Lib.hid hp
 clear hp HPL hzl hzs hz HRX HRY
 go_wp2_with fail
 refine (HRD.out w4).mono ?_
 rcases HP.out with ⟨pz, hrz, hlz⟩ | hrz
 ·rw [hrz]
  rw [hlz] at HWD
  rintro e w5 ⟨az, cz, fz, rfl, -, -, hb5⟩
  have HB5 : Hid (Below w.heap.size w w5) := HB4.out.trans (hb5.mono HB4.out.size)
  clear hb5 HRD hrz hlz HP HFX4 HFY4 HAX HAY
  go_wp2_with fail
  refine (HWD.out w5).mono ?_
  rintro e w6 ⟨a6, c6, rfl, -, hb6⟩
  have HB6 : Hid (Below w.heap.size w w6) := HB5.out.trans (hb6.mono HB5.out.size)
  clear hb6 HWD
  go_wp2
  go_ret
  exact ⟨rfl, HB6.out⟩
 rw [hrz]
 rintro e w5 ⟨az, cz, fz, rfl, hfz, hmz, hb5⟩
 have hlen : (xs ++ ys.map (Rd.sh (sl.length + 1))).length = nz := by rw [List.length_append, List.length_map]; have := HNN.out; have := HNZ.out; omega
 have HFZ := Lib.hid (Rd.FSrc.of hfz hmz rfl)
 simp only at HFZ ⊢
 rw [show ((0 : Nat) : Int) = 0 from rfl]
 obtain ⟨zs, hzs⟩ : ∃ zs, xs ++ ys.map (Rd.sh (sl.length + 1)) = zs := ⟨_, rfl⟩
 rw [hzs] at hlen HFZ ⊢
 rw [hlen] at HFZ ⊢
 have HZS : Hid (xs ++ ys.map (Rd.sh (sl.length + 1)) = zs ∧ zs.length = nz ∧ nx + ny = nz) := ⟨hzs, hlen, HNZ.out.1⟩
 have HB5 : Hid (Below w.heap.size w w5) := HB4.out.trans (hb5.mono HB4.out.size)
 have HFX5 : Hid (nx = 0 ∨ ∃ g, ax = some ⟨g, 0, none⟩ ∧ Rd.FSrc w5 g xs) := HFX4.out.imp id (fun ⟨g, h1, h2⟩ => ⟨g, h1, h2.below hb5⟩)
 have HFY5 : Hid (ny = 0 ∨ ∃ g, ay = some ⟨g, 0, none⟩ ∧ Rd.FSrc w5 g ys) := HFY4.out.imp id (fun ⟨g, h1, h2⟩ => ⟨g, h1, h2.below hb5⟩)
 have hne : ((nz : Int) != (nx : Int) + (ny : Int)) = false := by have := HNZ.out.1; rw [show (nz : Int) = (nx : Int) + (ny : Int) by omega]; simp
 clear hb5 hfz hmz HRD HWD HP HFX4 HFY4 cat1 cat2 e1 hrz hlen hzs
 go_wp2_with fail
 clear hne
 go_loopw [99, 16, 17, 18] (fun vi v16 v17 v18 wr => ∃ i : Nat, vi = .int .i64 i ∧ i ≤ nz ∧ Hid (Below w5.heap.size w5 wr)) (fun vi _ _ _ _ => nz - (intOf vi).toNat)
 case atStart => exact ⟨0, rfl, by omega, Below.refl _ _⟩
 case round =>
  obtain ⟨i, rfl, hi, HBI⟩ := hrel
  by_cases hlt : i < nz
  case neg =>
   have hge : ¬ (i : Int) < (nz : Int) := by omega
   have HBE : Hid (Below w.heap.size w wr) := HB5.out.trans (HBI.out.mono HB5.out.size)
   clear HFZ HFX5 HFY5 HZS HAX HAY
   go_wp2
   go_ret
   exact ⟨rfl, HBE.out⟩
  have hlti : (i : Int) < (nz : Int) := by omega
  obtain ⟨gz, rfl, hfz⟩ := HFZ.out.resolve_left (by omega)
  have hzl := HZS.out.2.1
  obtain ⟨b1, m1, p1, b2, m2, p2, b3, m3, p3, c0, c1, c2, c3, c4, c5, c6, hrz⟩ := (hfz.below HBI.out) i (by omega)
  obtain ⟨q, hq⟩ : ∃ q, zs[i] = q := ⟨_, rfl⟩
  rw [hq] at c0 c1 c2 c3 hrz
  obtain ⟨qa, qd⟩ := q
  simp only at c0 c1 c2 c3 hrz
  obtain ⟨v1, hv1⟩ : ∃ v1, wr.alloc (.cells #[.int .i64 (qa : Int), .int .i64 qd.k, .int .i64 qd.n, .string qd.s, .slice b1 m1 p1, .slice b2 m2 p2, .slice b3 m3 p3] 43) = v1 := ⟨_, rfl⟩
  obtain ⟨hbv1, hsv1⟩ := new_below hv1
  have hH1 := Hp.new hv1
  obtain ⟨B, hB⟩ : ∃ B, wr.heap.size = B := ⟨_, rfl⟩
  rw [hB] at hH1 hsv1
  have HB1 : Hid (Below w5.heap.size w5 v1) := HBI.out.trans (hbv1.mono HBI.out.size)
  have HR1 : Hid (Dt.Rep (fun b => b < B + 1) v1 qd (.slice b1 m1 p1) (.slice b2 m2 p2) (.slice b3 m3 p3)) := Dt.Rep.mono (fun b _ hb => by omega) _ (hrz.below hbv1)
  have HSB : Hid (wr.heap.size = B ∧ v1.heap.size = B + 1) := ⟨hB, hsv1⟩
  have HH1 := Lib.hid hH1
  have HQ : Hid (∃ h : i < zs.length, zs[i] = (qa, qd)) := ⟨_, hq⟩
  clear hfz hrz hq hH1 hbv1
  by_cases hx : i < nx
  case pos =>
   have hxi : (i : Int) < (nx : Int) := by omega
   obtain ⟨gx, rfl, hfx⟩ := HFX5.out.resolve_left (by omega)
   have hxl := HNN.out.1
   obtain ⟨e1, f1, r1, e2, f2, r2, e3, f3, r3, d0, d1, d2, d3, d4, d5, d6, hrx⟩ := (hfx.below HB1.out) i (by omega)
   have hxq : xs[i]'(by omega) = (qa, qd) := by
    obtain ⟨h1, h2⟩ := HQ.out
    rw [← h2]
    simp only [← HZS.out.1]
    rw [List.getElem_append_left]
   rw [hxq] at d0 d1 d2 d3 hrx
   simp only at d0 d1 d2 d3 hrx
   have HA : Hid (Dt.check qd = 0 ∧ Dt.Wf qd) := HAX.out (qa, qd) (by rw [← hxq]; exact List.getElem_mem _)
   clear hfx hxl hxq HFX5 HFY5 HFZ
   go_upto_region 16 with fail
   obtain ⟨v2, hv2⟩ : ∃ v2, v1.alloc (.cells #[.int .i64 0, .int .i64 0, .int .i64 0, .string ⟨#[]⟩, .slice none 0 0, .slice none 0 0, .slice none 0 0] 43) = v2 := ⟨_, rfl⟩
   rw [hv2]
   obtain ⟨hbv2, hsv2⟩ := new_below hv2
   have hH2 := Hp.new hv2
   rw [HSB.out.2] at hH2 hsv2
   have hH1 := HH1.out.below hbv2
   have hr1 := HR1.out.below hbv2
   have hr2 : Dt.Rep (fun b => b < B + 1) v2 _ _ _ _ := (Dt.Rep.mono (fun b _ hb => by have := HSB.out.2; omega) _ hrx).below hbv2
   have HB2' : Hid (Below w5.heap.size w5 v2) := HB1.out.trans (hbv2.mono HB1.out.size)
   have k := fun (j : Nat) (v : Value) (hc : v1.cell? ⟨gx, j, none⟩ = some v) => (hbv2.cell (p := ⟨gx, j, none⟩) (block_lt_of_cell hc)).trans hc
   replace d0 := k _ _ d0
   replace d1 := k _ _ d1
   replace d2 := k _ _ d2
   replace d3 := k _ _ d3
   replace d4 := k _ _ d4
   replace d5 := k _ _ d5
   replace d6 := k _ _ d6
   obtain ⟨v3, hv3⟩ : ∃ v3, Rd.set7 v2 (B + 1) (.int .i64 (qa : Int)) (.int .i64 qd.k) (.int .i64 qd.n) (.string qd.s) (.slice e1 f1 r1) (.slice e2 f2 r2) (.slice e3 f3 r3) = v3 := ⟨_, rfl⟩
   have hK3 : Keep (fun k => k = B + 1) v2 v3 := by rw [← hv3]; exact Rd.set7_keep _ _ _ _ _ _ _ _ _
   have hH3 : Hp v3 (B + 1) #[.int .i64 (qa : Int), .int .i64 qd.k, .int .i64 qd.n, .string qd.s, .slice e1 f1 r1, .slice e2 f2 r2, .slice e3 f3 r3] 43 := by rw [← hv3]; exact Rd.hp_set7 hH2 _ _ _ _ _ _ _
   have hH13 := hH1.keep hK3 (by omega)
   have t0 := hH2.cell 0 rfl
   have t1 := hH2.cell 1 rfl
   have t2 := hH2.cell 2 rfl
   have t3 := hH2.cell 3 rfl
   have t4 := hH2.cell 4 rfl
   have t5 := hH2.cell 5 rfl
   have t6 := hH2.cell 6 rfl
   have k0 := hH2.frz 0
   have k1 := hH2.frz 1
   have k2 := hH2.frz 2
   have k3 := hH2.frz 3
   have k4 := hH2.frz 4
   have k5 := hH2.frz 5
   have k6 := hH2.frz 6
   have HKK := Lib.hid hK3
   have HHH := Lib.hid hH3
   have HHB := Lib.hid hH13
   have HRR := Lib.hid (And.intro hr1 hr2)
   have hBw : w5.heap.size ≤ B := by have := HBI.out.size; have := HSB.out.1; omega
   have HB3 : Hid (Below w5.heap.size w5 v3) := HB2'.out.trans (hK3.to_below (fun k e => by omega) HB2'.out.size)
   unfold Rd.set7 at hv3
   clear hbv2 hsv2 hH2 hH1 hr1 hr2 HB2' k hK3 hH3 hH13 hrx HH1 HR1 HB1
   go_upto_region 19 with fail
   clear hv3 t0 t1 t2 t3 t4 t5 t6 k0 k1 k2 k3 k4 k5 k6 d0 d1 d2 d3 d4 d5 d6 c0 c1 c2 c3 c4 c5 c6
   obtain ⟨v4, hv4⟩ : ∃ v4, v3 = v4 := ⟨_, rfl⟩
   have HK24 := HKK
   have HHH4 := HHH
   have HHB4 := HHB
   have HB4' := HB3
   rw [hv4] at HK24 HHH4 HHB4 HB4' ⊢
   clear hv4 HKK HHH HHB HB3
   have y0 := HHH4.out.cell 0 rfl
   have y1 := HHH4.out.cell 1 rfl
   have y2 := HHH4.out.cell 2 rfl
   have y3 := HHH4.out.cell 3 rfl
   have y4 := HHH4.out.cell 4 rfl
   have y5 := HHH4.out.cell 5 rfl
   have y6 := HHH4.out.cell 6 rfl
   have x0 := HHB4.out.cell 0 rfl
   have x1 := HHB4.out.cell 1 rfl
   have x2 := HHB4.out.cell 2 rfl
   have x3 := HHB4.out.cell 3 rfl
   have x4 := HHB4.out.cell 4 rfl
   have x5 := HHB4.out.cell 5 rfl
   have x6 := HHB4.out.cell 6 rfl
   have hsame := rSame_any qd qd _ _ _ _ _ _ v4 HA.out.2 HA.out.2 (HRR.out.1.keep HK24.out (fun b hb _ e => by omega)) (HRR.out.2.keep HK24.out (fun b hb _ e => by omega))
   have hsd : Dt.sameD qd qd = true := by
    unfold Dt.sameD
    rw [HA.out.1, (Dt.eqD_iff _ _).2 rfl]
    rfl
   rw [hsd] at hsame
   clear hsd HK24 HHH4 HHB4 HRR HBI HZS HSB HQ HA hlti hxi hi1 hi2 hd1 hd2 HAX HAY HNN
   go_wp2_with fail
   refine hsame.mono ?_
   rintro e v5 ⟨rfl, hb5⟩
   have HBF : Hid (Below w5.heap.size w5 v5) := HB4'.out.trans (hb5.mono HB4'.out.size)
   clear hsame hb5 y0 y1 y2 y3 y4 y5 y6 x0 x1 x2 x3 x4 x5 x6
   have HIW : Hid (wrap64 ((i : Int) + 1) = (i : Int) + 1) := Rd.w64 _ (by omega) (by have := HNZ.out.2.2; omega)
   go_wp2
   go_roundw
   case rel => exact ⟨i + 1, by simp, by omega, HBF.out⟩
   case measure => simp [intOf]; omega
  case neg =>
   have hxi : ¬ (i : Int) < (nx : Int) := by omega
   obtain ⟨gy, rfl, hfy⟩ := HFY5.out.resolve_left (by have := HZS.out.2.2; omega)
   have hyl := HNN.out.2
   have hxl := HNN.out.1
   obtain ⟨k, hk⟩ : ∃ k, i = nx + k := ⟨i - nx, by omega⟩
   have hks : (i : Int) - (nx : Int) = (k : Int) := by omega
   have hkn : k < ny := by have := HZS.out.2.2; omega
   have hkni : (k : Int) < (ny : Int) := by omega
   obtain ⟨e1, f1, r1, e2, f2, r2, e3, f3, r3, d0, d1, d2, d3, d4, d5, d6, hrx⟩ := (hfy.below HB1.out) k (by omega)
   obtain ⟨y, hy⟩ : ∃ y, ys[k]'(by omega) = y := ⟨_, rfl⟩
   have hyq : (y.1 + (sl.length + 1), y.2) = (qa, qd) := by
    obtain ⟨h1, h2⟩ := HQ.out
    rw [← h2]
    simp only [← HZS.out.1]
    rw [List.getElem_append_right (by omega), List.getElem_map]
    simp only [hk, hxl, Nat.add_sub_cancel_left, hy]
    rfl
   rw [hy] at d0 d1 d2 d3 hrx
   have hyd := HAY.out y (by rw [← hy]; exact List.getElem_mem _)
   obtain ⟨qy, yd⟩ := y
   simp only at d0 d1 d2 d3 hrx hyq hyd
   obtain ⟨hqa, rfl⟩ := Prod.mk.inj hyq
   have HA : Hid (Dt.check yd = 0 ∧ Dt.Wf yd) := hyd
   have hqw : (qy : Int) + ((sl.length : Int) + 1) = (qa : Int) := by omega
   have hqb : (qy : Int) ≤ 16384 := by
    have h1 : qy ≤ tl.length := HAT.out (qy, yd) (by rw [← hy]; exact List.getElem_mem _)
    omega
   clear hfy hyl hxl hy hyd hyq hqa hk hkn HFX5 HFY5 HFZ
   go_upto_region 17 with fail
   obtain ⟨v2, hv2⟩ : ∃ v2, v1.alloc (.cells #[.int .i64 0, .int .i64 0, .int .i64 0, .string ⟨#[]⟩, .slice none 0 0, .slice none 0 0, .slice none 0 0] 43) = v2 := ⟨_, rfl⟩
   rw [hv2]
   obtain ⟨hbv2, hsv2⟩ := new_below hv2
   have hH2 := Hp.new hv2
   rw [HSB.out.2] at hH2 hsv2
   have hH1 := HH1.out.below hbv2
   have hr1 := HR1.out.below hbv2
   have hr2 : Dt.Rep (fun b => b < B + 1) v2 _ _ _ _ := (Dt.Rep.mono (fun b _ hb => by have := HSB.out.2; omega) _ hrx).below hbv2
   have HB2' : Hid (Below w5.heap.size w5 v2) := HB1.out.trans (hbv2.mono HB1.out.size)
   have k := fun (j : Nat) (v : Value) (hc : v1.cell? ⟨gy, j, none⟩ = some v) => (hbv2.cell (p := ⟨gy, j, none⟩) (block_lt_of_cell hc)).trans hc
   replace d0 := k _ _ d0
   replace d1 := k _ _ d1
   replace d2 := k _ _ d2
   replace d3 := k _ _ d3
   replace d4 := k _ _ d4
   replace d5 := k _ _ d5
   replace d6 := k _ _ d6
   obtain ⟨v3, hv3⟩ : ∃ v3, Rd.set7 v2 (B + 1) (.int .i64 (qy : Int)) (.int .i64 yd.k) (.int .i64 yd.n) (.string yd.s) (.slice e1 f1 r1) (.slice e2 f2 r2) (.slice e3 f3 r3) = v3 := ⟨_, rfl⟩
   have hK3 : Keep (fun k => k = B + 1) v2 v3 := by rw [← hv3]; exact Rd.set7_keep _ _ _ _ _ _ _ _ _
   have hH3 : Hp v3 (B + 1) #[.int .i64 (qy : Int), .int .i64 yd.k, .int .i64 yd.n, .string yd.s, .slice e1 f1 r1, .slice e2 f2 r2, .slice e3 f3 r3] 43 := by rw [← hv3]; exact Rd.hp_set7 hH2 _ _ _ _ _ _ _
   have hH13 := hH1.keep hK3 (by omega)
   have t0 := hH2.cell 0 rfl
   have t1 := hH2.cell 1 rfl
   have t2 := hH2.cell 2 rfl
   have t3 := hH2.cell 3 rfl
   have t4 := hH2.cell 4 rfl
   have t5 := hH2.cell 5 rfl
   have t6 := hH2.cell 6 rfl
   have k0 := hH2.frz 0
   have k1 := hH2.frz 1
   have k2 := hH2.frz 2
   have k3 := hH2.frz 3
   have k4 := hH2.frz 4
   have k5 := hH2.frz 5
   have k6 := hH2.frz 6
   have HKK := Lib.hid hK3
   have HHH := Lib.hid hH3
   have HHB := Lib.hid hH13
   have HRR := Lib.hid (And.intro hr1 hr2)
   have hBw : w5.heap.size ≤ B := by have := HBI.out.size; have := HSB.out.1; omega
   have HB3 : Hid (Below w5.heap.size w5 v3) := HB2'.out.trans (hK3.to_below (fun k e => by omega) HB2'.out.size)
   unfold Rd.set7 at hv3
   clear hbv2 hsv2 hH2 hH1 hr1 hr2 HB2' k hK3 hH3 hH13 hrx HH1 HR1 HB1
   go_upto_region 18 with fail
   clear hv3 t0 t1 t2 t3 t4 t5 t6 k0 k1 k2 k3 k4 k5 k6 d0 d1 d2 d3 d4 d5 d6 c0 c1 c2 c3 c4 c5 c6
   obtain ⟨v4, hv4⟩ : ∃ v4, v3.setCell ⟨B + 1, 0, none⟩ (.int .i64 (qa : Int)) = v4 := ⟨_, rfl⟩
   have hK4 : Keep (fun k => k = B + 1) v3 v4 := by rw [← hv4]; exact set_keep _ _ _ _
   have hH4 : Hp v4 (B + 1) #[.int .i64 (qa : Int), .int .i64 yd.k, .int .i64 yd.n, .string yd.s, .slice e1 f1 r1, .slice e2 f2 r2, .slice e3 f3 r3] 43 := by rw [← hv4]; exact HHH.out.set 0 _
   have hH14 := HHB.out.keep hK4 (by omega)
   have t0 := HHH.out.cell 0 rfl
   have k0 := HHH.out.frz 0
   have HK24 := Lib.hid (HKK.out.trans hK4)
   have HHH4 := Lib.hid hH4
   have HHB4 := Lib.hid hH14
   have HB4' : Hid (Below w5.heap.size w5 v4) := HB3.out.trans (hK4.to_below (fun k e => by omega) HB3.out.size)
   clear hK4 hH4 hH14 HKK HHH HHB HB3
   go_upto_region 19 with fail
   clear hv4 t0 k0 hqw hqb
   have y0 := HHH4.out.cell 0 rfl
   have y1 := HHH4.out.cell 1 rfl
   have y2 := HHH4.out.cell 2 rfl
   have y3 := HHH4.out.cell 3 rfl
   have y4 := HHH4.out.cell 4 rfl
   have y5 := HHH4.out.cell 5 rfl
   have y6 := HHH4.out.cell 6 rfl
   have x0 := HHB4.out.cell 0 rfl
   have x1 := HHB4.out.cell 1 rfl
   have x2 := HHB4.out.cell 2 rfl
   have x3 := HHB4.out.cell 3 rfl
   have x4 := HHB4.out.cell 4 rfl
   have x5 := HHB4.out.cell 5 rfl
   have x6 := HHB4.out.cell 6 rfl
   have hsame := rSame_any yd yd _ _ _ _ _ _ v4 HA.out.2 HA.out.2 (HRR.out.1.keep HK24.out (fun b hb _ e => by omega)) (HRR.out.2.keep HK24.out (fun b hb _ e => by omega))
   have hsd : Dt.sameD yd yd = true := by
    unfold Dt.sameD
    rw [HA.out.1, (Dt.eqD_iff _ _).2 rfl]
    rfl
   rw [hsd] at hsame
   clear hsd HK24 HHH4 HHB4 HRR HBI HZS HSB HQ HA hlti hxi hi1 hi2 hd1 hd2 HAX HAY HNN hks hkni
   go_wp2_with fail
   refine hsame.mono ?_
   rintro e v5 ⟨rfl, hb5⟩
   have HBF : Hid (Below w5.heap.size w5 v5) := HB4'.out.trans (hb5.mono HB4'.out.size)
   clear hsame hb5 y0 y1 y2 y3 y4 y5 y6 x0 x1 x2 x3 x4 x5 x6
   have HIW : Hid (wrap64 ((i : Int) + 1) = (i : Int) + 1) := Rd.w64 _ (by omega) (by have := HNZ.out.2.2; omega)
   go_wp2
   go_roundw
   case rel => exact ⟨i + 1, by rw [HIW.out]; simp, by omega, HBF.out⟩
   case measure => rw [HIW.out]; simp [intOf]; omega
end Go.Proofs.Ytcopdfihaheplaa
