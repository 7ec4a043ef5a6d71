/-
 The walk of the reference's text of a word.
-/
import Derived.Test.YtcopdfihaheplaaTxJ
import Derived.Test.YtcopdfihaheplaaFixTextR
namespace Go.Proofs.Ytcopdfihaheplaa
open Go.RowKit
namespace Tx
theorem textR_dat (k n : Int) (l : List UInt8) (h : kind k ≠ 0) : text k n l = if ok (kind k) n l = true then some (datL (kind k) n l) else none := by
 unfold text
 rw [if_pos h]
theorem textR_sign (k n : Int) (s : ByteArray) (h : 1 ≤ k ∧ k ≤ 8) : text k n s.data.toList = if ((n == 0) && s.toList.isEmpty) = true then some (signL k) else none := by
 unfold text
 have hk : kind k = 0 := by
  unfold kind
  rw [if_neg (by omega), if_neg (by omega), if_neg (by omega), if_neg (by omega), if_neg (by omega)]
 rw [if_neg (by rw [hk]; simp), if_pos h, ByteArray.toList_eq]
 congr 1
 simp
theorem VRs (l : List UInt8) : V (some l) = .tuple #[.string ⟨l.toArray⟩, .int .i64 0] := rfl
theorem VRn : V none = .tuple #[.string ⟨#[]⟩, .int .i64 30] := rfl
structure TokRAt (w : World) (b : Nat) (k n : Int) (s : ByteArray) : Prop where
 c0 : w.cell? ⟨b, 0, none⟩ = some (.int .i64 k)
 c3 : w.cell? ⟨b, 3, none⟩ = some (.int .i64 n)
 c4 : w.cell? ⟨b, 4, none⟩ = some (.string s)
 lt : b < w.heap.size
theorem TokRAt.below {w w' : World} {b : Nat} {k n : Int} {s : ByteArray} (h : TokRAt w b k n s) (hb : Below w.heap.size w w') : TokRAt w' b k n s :=
 ⟨(hb.cell (p := ⟨b, 0, none⟩) h.lt).trans h.c0, (hb.cell (p := ⟨b, 3, none⟩) h.lt).trans h.c3, (hb.cell (p := ⟨b, 4, none⟩) h.lt).trans h.c4, Nat.lt_of_lt_of_le h.lt hb.size⟩
theorem startR (w : World) (k a z n : Int) (s : ByteArray) : ∃ w3, w.alloc (.cells #[.int .i64 k, .int .i64 a, .int .i64 z, .int .i64 n, .string s] 47) = w3 ∧ TokRAt w3 w.heap.size k n s ∧ Below w.heap.size w w3 := by
 obtain ⟨X, hX⟩ : ∃ X, w.alloc (.cells #[.int .i64 k, .int .i64 a, .int .i64 z, .int .i64 n, .string s] 47) = X := ⟨_, rfl⟩
 have hh : X.heap[w.heap.size]? = some (.cells #[.int .i64 k, .int .i64 a, .int .i64 z, .int .i64 n, .string s] 47 (0, 0)) := by
  rw [← hX]; show (w.heap.push _)[w.heap.size]? = _; simp
 exact ⟨X, hX, ⟨by rw [Lib.cell_of_heap hh]; rfl, by rw [Lib.cell_of_heap hh]; rfl, by rw [Lib.cell_of_heap hh]; rfl, by rw [← hX, World.size_alloc]; omega⟩, by rw [← hX]; exact (Below.refl _ _).alloc (Nat.le_refl _) _⟩
end Tx
set_option maxRecDepth 100000 in
set_option maxHeartbeats 8000000 in
theorem TextR4_any (a z n : Int) (s : ByteArray) (w : World) :
  Calls Try.prog 71 #[.agg #[.int .i64 4, .int .i64 a, .int .i64 z, .int .i64 n, .string s]] w fun e w' => e = .returned (Tx.V (Tx.text 4 n s.data.toList)) ∧ Below w.heap.size w w' := by
 have he := Tx.textR_sign 4 n s (by omega)
 rw [show Tx.signL 4 = [39] from rfl] at he
 have hkk := kindsR_any 4
 rw [show Tx.kind 4 = 0 from rfl] at hkk
 have HE := Lib.hid he
 clear he
 cases f1 : (n == 0)
 ·have f2 : (n != 0) = true := by rw [bne, f1]; rfl
  have HR : Hid (Tx.text 4 n s.data.toList = none) := by show _ = _; rw [HE.out, f1]; rfl
  clear HE
  go_enter Try.func71, Try.ntmps71
  go_wp2_with (go_at_call 94; refine (hkk _).mono ?_; rintro e w1 ⟨rfl, rfl⟩)
  go_ret2
  exact ⟨by rw [HR.out, Tx.VRn]; rfl, (Below.refl _ _).alloc (Nat.le_refl _) _⟩
 ·have f2 : (n != 0) = false := by rw [bne, f1]; rfl
  cases f3 : s.toList.isEmpty
  ·have HR : Hid (Tx.text 4 n s.data.toList = none) := by show _ = _; rw [HE.out, f1, f3]; rfl
   clear HE
   go_enter Try.func71, Try.ntmps71
   go_wp2_with (go_at_call 94; refine (hkk _).mono ?_; rintro e w1 ⟨rfl, rfl⟩)
   go_ret2
   exact ⟨by rw [HR.out, Tx.VRn]; rfl, (Below.refl _ _).alloc (Nat.le_refl _) _⟩
  ·have HR : Hid (Tx.text 4 n s.data.toList = some [39]) := by show _ = _; rw [HE.out, f1, f3]; rfl
   clear HE
   go_enter Try.func71, Try.ntmps71
   go_wp2_with (go_at_call 94; refine (hkk _).mono ?_; rintro e w1 ⟨rfl, rfl⟩)
   go_ret2
   exact ⟨by rw [HR.out, Tx.VRs]; rfl, (Below.refl _ _).alloc (Nat.le_refl _) _⟩
set_option maxRecDepth 100000 in
set_option maxHeartbeats 8000000 in
theorem TextR5_any (a z n : Int) (s : ByteArray) (w : World) :
  Calls Try.prog 71 #[.agg #[.int .i64 5, .int .i64 a, .int .i64 z, .int .i64 n, .string s]] w fun e w' => e = .returned (Tx.V (Tx.text 5 n s.data.toList)) ∧ Below w.heap.size w w' := by
 have he := Tx.textR_sign 5 n s (by omega)
 rw [show Tx.signL 5 = [96] from rfl] at he
 have hkk := kindsR_any 5
 rw [show Tx.kind 5 = 0 from rfl] at hkk
 have HE := Lib.hid he
 clear he
 cases f1 : (n == 0)
 ·have f2 : (n != 0) = true := by rw [bne, f1]; rfl
  have HR : Hid (Tx.text 5 n s.data.toList = none) := by show _ = _; rw [HE.out, f1]; rfl
  clear HE
  go_enter Try.func71, Try.ntmps71
  go_wp2_with (go_at_call 94; refine (hkk _).mono ?_; rintro e w1 ⟨rfl, rfl⟩)
  go_ret2
  exact ⟨by rw [HR.out, Tx.VRn]; rfl, (Below.refl _ _).alloc (Nat.le_refl _) _⟩
 ·have f2 : (n != 0) = false := by rw [bne, f1]; rfl
  cases f3 : s.toList.isEmpty
  ·have HR : Hid (Tx.text 5 n s.data.toList = none) := by show _ = _; rw [HE.out, f1, f3]; rfl
   clear HE
   go_enter Try.func71, Try.ntmps71
   go_wp2_with (go_at_call 94; refine (hkk _).mono ?_; rintro e w1 ⟨rfl, rfl⟩)
   go_ret2
   exact ⟨by rw [HR.out, Tx.VRn]; rfl, (Below.refl _ _).alloc (Nat.le_refl _) _⟩
  ·have HR : Hid (Tx.text 5 n s.data.toList = some [96]) := by show _ = _; rw [HE.out, f1, f3]; rfl
   clear HE
   have hcv := Tx.conv1 96 ((w.alloc (.cells #[.int .i64 5, .int .i64 a, .int .i64 z, .int .i64 n, .string s] 47)).alloc (.cells #[.int .u8 96] 5)) (w.heap.size + 1) (by
    obtain ⟨X, hX⟩ : ∃ X, w.alloc (.cells #[.int .i64 5, .int .i64 a, .int .i64 z, .int .i64 n, .string s] 47) = X := ⟨_, rfl⟩
    rw [hX, ← show X.heap.size = w.heap.size + 1 by rw [← hX, World.size_alloc]]
    simp [World.cell?_alloc_new])
   go_enter Try.func71, Try.ntmps71
   go_wp2_with (go_at_call 94; refine (hkk _).mono ?_; rintro e w1 ⟨rfl, rfl⟩)
   go_ret2
   exact ⟨by rw [HR.out, Tx.VRs]; rfl, ((Below.refl _ _).alloc (Nat.le_refl _) _).alloc (by rw [World.size_alloc]; omega) _⟩
set_option maxRecDepth 100000 in
set_option maxHeartbeats 8000000 in
theorem TextR6_any (a z n : Int) (s : ByteArray) (w : World) :
  Calls Try.prog 71 #[.agg #[.int .i64 6, .int .i64 a, .int .i64 z, .int .i64 n, .string s]] w fun e w' => e = .returned (Tx.V (Tx.text 6 n s.data.toList)) ∧ Below w.heap.size w w' := by
 have he := Tx.textR_sign 6 n s (by omega)
 rw [show Tx.signL 6 = [44] from rfl] at he
 have hkk := kindsR_any 6
 rw [show Tx.kind 6 = 0 from rfl] at hkk
 have HE := Lib.hid he
 clear he
 cases f1 : (n == 0)
 ·have f2 : (n != 0) = true := by rw [bne, f1]; rfl
  have HR : Hid (Tx.text 6 n s.data.toList = none) := by show _ = _; rw [HE.out, f1]; rfl
  clear HE
  go_enter Try.func71, Try.ntmps71
  go_wp2_with (go_at_call 94; refine (hkk _).mono ?_; rintro e w1 ⟨rfl, rfl⟩)
  go_ret2
  exact ⟨by rw [HR.out, Tx.VRn]; rfl, (Below.refl _ _).alloc (Nat.le_refl _) _⟩
 ·have f2 : (n != 0) = false := by rw [bne, f1]; rfl
  cases f3 : s.toList.isEmpty
  ·have HR : Hid (Tx.text 6 n s.data.toList = none) := by show _ = _; rw [HE.out, f1, f3]; rfl
   clear HE
   go_enter Try.func71, Try.ntmps71
   go_wp2_with (go_at_call 94; refine (hkk _).mono ?_; rintro e w1 ⟨rfl, rfl⟩)
   go_ret2
   exact ⟨by rw [HR.out, Tx.VRn]; rfl, (Below.refl _ _).alloc (Nat.le_refl _) _⟩
  ·have HR : Hid (Tx.text 6 n s.data.toList = some [44]) := by show _ = _; rw [HE.out, f1, f3]; rfl
   clear HE
   go_enter Try.func71, Try.ntmps71
   go_wp2_with (go_at_call 94; refine (hkk _).mono ?_; rintro e w1 ⟨rfl, rfl⟩)
   go_ret2
   exact ⟨by rw [HR.out, Tx.VRs]; rfl, (Below.refl _ _).alloc (Nat.le_refl _) _⟩
set_option maxRecDepth 100000 in
set_option maxHeartbeats 8000000 in
theorem TextR7_any (a z n : Int) (s : ByteArray) (w : World) :
  Calls Try.prog 71 #[.agg #[.int .i64 7, .int .i64 a, .int .i64 z, .int .i64 n, .string s]] w fun e w' => e = .returned (Tx.V (Tx.text 7 n s.data.toList)) ∧ Below w.heap.size w w' := by
 have he := Tx.textR_sign 7 n s (by omega)
 rw [show Tx.signL 7 = [44, 64] from rfl] at he
 have hkk := kindsR_any 7
 rw [show Tx.kind 7 = 0 from rfl] at hkk
 have HE := Lib.hid he
 clear he
 cases f1 : (n == 0)
 ·have f2 : (n != 0) = true := by rw [bne, f1]; rfl
  have HR : Hid (Tx.text 7 n s.data.toList = none) := by show _ = _; rw [HE.out, f1]; rfl
  clear HE
  go_enter Try.func71, Try.ntmps71
  go_wp2_with (go_at_call 94; refine (hkk _).mono ?_; rintro e w1 ⟨rfl, rfl⟩)
  go_ret2
  exact ⟨by rw [HR.out, Tx.VRn]; rfl, (Below.refl _ _).alloc (Nat.le_refl _) _⟩
 ·have f2 : (n != 0) = false := by rw [bne, f1]; rfl
  cases f3 : s.toList.isEmpty
  ·have HR : Hid (Tx.text 7 n s.data.toList = none) := by show _ = _; rw [HE.out, f1, f3]; rfl
   clear HE
   go_enter Try.func71, Try.ntmps71
   go_wp2_with (go_at_call 94; refine (hkk _).mono ?_; rintro e w1 ⟨rfl, rfl⟩)
   go_ret2
   exact ⟨by rw [HR.out, Tx.VRn]; rfl, (Below.refl _ _).alloc (Nat.le_refl _) _⟩
  ·have HR : Hid (Tx.text 7 n s.data.toList = some [44, 64]) := by show _ = _; rw [HE.out, f1, f3]; rfl
   clear HE
   go_enter Try.func71, Try.ntmps71
   go_wp2_with (go_at_call 94; refine (hkk _).mono ?_; rintro e w1 ⟨rfl, rfl⟩)
   go_ret2
   exact ⟨by rw [HR.out, Tx.VRs]; rfl, (Below.refl _ _).alloc (Nat.le_refl _) _⟩
set_option maxRecDepth 100000 in
set_option maxHeartbeats 8000000 in
theorem TextR9_any (a z n : Int) (s : ByteArray) (w : World) (hs : s.size ≤ 1000000) :
  Calls Try.prog 71 #[.agg #[.int .i64 9, .int .i64 a, .int .i64 z, .int .i64 n, .string s]] w fun e w' => e = .returned (Tx.V (Tx.text 9 n s.data.toList)) ∧ Below w.heap.size w w' := by
 obtain ⟨R, hR⟩ : ∃ R, Tx.text 9 n s.data.toList = R := ⟨_, rfl⟩
 have he := Tx.textR_dat 9 n s.data.toList (by decide)
 rw [show Tx.kind 9 = 1 from rfl, hR] at he
 rw [hR]
 clear hR
 have hkk := kindsR_any 9
 rw [show Tx.kind 9 = 1 from rfl] at hkk
 have hck := fun w => CheckR_any 1 n s w hs (by omega)
 obtain ⟨w3, hw3, hT, hb3⟩ := Tx.startR w 9 a z n s
 obtain ⟨O, hO⟩ : ∃ O, Tx.ok 1 n s.data.toList = O := ⟨_, rfl⟩
 rw [hO] at he
 have hck2 : ∀ w, Calls Try.prog 15 #[.agg #[.int .i64 1, .int .i64 n, .string s, .slice none 0 0, .slice none 0 0, .slice none 0 0]] w fun e w' => e = .returned (.int .i64 (if O = true then 0 else 20)) ∧ Below w.heap.size w w' := by rw [← hO]; exact hck
 have HE := Lib.hid he
 have HOK := Lib.hid hO
 clear he hck
 have HT := Lib.hid hT
 have HB3 := Lib.hid hb3
 obtain ⟨c0, c3, c4, cl⟩ := hT
 clear cl hb3
 cases O with
 | false =>
  have HR : Hid (R = none) := by show _ = _; rw [HE.out]; rfl
  have hck3 : ∀ w, Calls Try.prog 15 #[.agg #[.int .i64 1, .int .i64 n, .string s, .slice none 0 0, .slice none 0 0, .slice none 0 0]] w fun e w' => e = .returned (.int .i64 20) ∧ Below w.heap.size w w' := hck2
  clear hck2 HE HOK hO
  go_enter Try.func71, Try.ntmps71
  go_wp2_with (first
   | (go_at_call 94; refine (hkk _).mono ?_; rintro e w1 ⟨rfl, rfl⟩)
   | (go_at_call 15; refine (hck3 _).mono ?_; rintro e w4 ⟨rfl, hb4⟩))
  go_ret2
  exact ⟨by rw [HR.out, Tx.VRn]; rfl, HB3.out.trans (hb4.mono HB3.out.size)⟩
 | true =>
  have HR : Hid (R = some (Tx.datL 1 n s.data.toList)) := by show _ = _; rw [HE.out]; rfl
  have hck3 : ∀ w, Calls Try.prog 15 #[.agg #[.int .i64 1, .int .i64 n, .string s, .slice none 0 0, .slice none 0 0, .slice none 0 0]] w fun e w' => e = .returned (.int .i64 0) ∧ Below w.heap.size w w' := hck2
  clear hck2 HE hO
  go_enter Try.func71, Try.ntmps71
  go_wp2_with (go_at_call 94; refine (hkk _).mono ?_; rintro e w1 ⟨rfl, rfl⟩)
  refine (hck3 _).mono ?_
  rintro e w4 ⟨rfl, hbq⟩
  have HB4 := Lib.hid (HB3.out.trans (hbq.mono HB3.out.size))
  have hT4 := HT.out.below hbq
  have HT4 := Lib.hid hT4
  obtain ⟨t0, t3, t4, tl⟩ := hT4
  clear hbq tl c0 c3 c4 hw3 hck3
  have hF : Fx.isF n = true := by
   have h := HOK.out
   unfold Tx.ok at h
   rw [if_pos rfl, Bool.and_eq_true] at h
   exact h.1
  have HD : Hid (Tx.datL 1 n s.data.toList = Fx.textL n) := rfl
  have HF := Lib.hid hF
  clear hF
  go_wp2_with (go_at_call 95; refine (rText_ok n _ HF.out).mono ?_; rintro e w5 ⟨rfl, hb5⟩)
  go_ret2
  exact ⟨by rw [HR.out, HD.out, Tx.VRs]; rfl, HB4.out.trans (hb5.mono HB4.out.size)⟩
set_option maxRecDepth 100000 in
set_option maxHeartbeats 8000000 in
theorem TextR10_any (a z n : Int) (s : ByteArray) (w : World) (hs : s.size ≤ 1000000) :
  Calls Try.prog 71 #[.agg #[.int .i64 10, .int .i64 a, .int .i64 z, .int .i64 n, .string s]] w fun e w' => e = .returned (Tx.V (Tx.text 10 n s.data.toList)) ∧ Below w.heap.size w w' := by
 obtain ⟨R, hR⟩ : ∃ R, Tx.text 10 n s.data.toList = R := ⟨_, rfl⟩
 have he := Tx.textR_dat 10 n s.data.toList (by decide)
 rw [show Tx.kind 10 = 2 from rfl, hR] at he
 rw [hR]
 clear hR
 have hkk := kindsR_any 10
 rw [show Tx.kind 10 = 2 from rfl] at hkk
 have hck := fun w => CheckR_any 2 n s w hs (by omega)
 obtain ⟨w3, hw3, hT, hb3⟩ := Tx.startR w 10 a z n s
 obtain ⟨O, hO⟩ : ∃ O, Tx.ok 2 n s.data.toList = O := ⟨_, rfl⟩
 rw [hO] at he
 have hck2 : ∀ w, Calls Try.prog 15 #[.agg #[.int .i64 2, .int .i64 n, .string s, .slice none 0 0, .slice none 0 0, .slice none 0 0]] w fun e w' => e = .returned (.int .i64 (if O = true then 0 else 20)) ∧ Below w.heap.size w w' := by rw [← hO]; exact hck
 have HE := Lib.hid he
 have HOK := Lib.hid hO
 clear he hck
 have HT := Lib.hid hT
 have HB3 := Lib.hid hb3
 obtain ⟨c0, c3, c4, cl⟩ := hT
 clear cl hb3
 cases O with
 | false =>
  have HR : Hid (R = none) := by show _ = _; rw [HE.out]; rfl
  have hck3 : ∀ w, Calls Try.prog 15 #[.agg #[.int .i64 2, .int .i64 n, .string s, .slice none 0 0, .slice none 0 0, .slice none 0 0]] w fun e w' => e = .returned (.int .i64 20) ∧ Below w.heap.size w w' := hck2
  clear hck2 HE HOK hO
  go_enter Try.func71, Try.ntmps71
  go_wp2_with (first
   | (go_at_call 94; refine (hkk _).mono ?_; rintro e w1 ⟨rfl, rfl⟩)
   | (go_at_call 15; refine (hck3 _).mono ?_; rintro e w4 ⟨rfl, hb4⟩))
  go_ret2
  exact ⟨by rw [HR.out, Tx.VRn]; rfl, HB3.out.trans (hb4.mono HB3.out.size)⟩
 | true =>
  have HR : Hid (R = some (Tx.datL 2 n s.data.toList)) := by show _ = _; rw [HE.out]; rfl
  have hck3 : ∀ w, Calls Try.prog 15 #[.agg #[.int .i64 2, .int .i64 n, .string s, .slice none 0 0, .slice none 0 0, .slice none 0 0]] w fun e w' => e = .returned (.int .i64 0) ∧ Below w.heap.size w w' := hck2
  clear hck2 HE hO
  go_enter Try.func71, Try.ntmps71
  go_wp2_with (go_at_call 94; refine (hkk _).mono ?_; rintro e w1 ⟨rfl, rfl⟩)
  refine (hck3 _).mono ?_
  rintro e w4 ⟨rfl, hbq⟩
  have HB4 := Lib.hid (HB3.out.trans (hbq.mono HB3.out.size))
  have hT4 := HT.out.below hbq
  have HT4 := Lib.hid hT4
  obtain ⟨t0, t3, t4, tl⟩ := hT4
  clear hbq tl c0 c3 c4 hw3 hck3
  have hF : n = 0 ∨ n = 1 := by
   have h := HOK.out
   unfold Tx.ok at h
   rw [if_neg (by decide), if_pos rfl, Bool.and_eq_true, Bool.or_eq_true, decide_eq_true_iff, decide_eq_true_iff] at h
   exact h.1
  rcases hF with rfl | rfl
  ·have HD : Hid (Tx.datL 2 0 s.data.toList = [35, 102]) := rfl
   go_wp2
   go_ret2
   exact ⟨by rw [HR.out, HD.out, Tx.VRs]; rfl, HB4.out⟩
  ·have HD : Hid (Tx.datL 2 1 s.data.toList = [35, 116]) := rfl
   go_wp2
   go_ret2
   exact ⟨by rw [HR.out, HD.out, Tx.VRs]; rfl, HB4.out⟩
set_option maxRecDepth 100000 in
set_option maxHeartbeats 8000000 in
theorem TextR11_any (a z n : Int) (s : ByteArray) (w : World) (hs : s.size ≤ 1000000) :
  Calls Try.prog 71 #[.agg #[.int .i64 11, .int .i64 a, .int .i64 z, .int .i64 n, .string s]] w fun e w' => e = .returned (Tx.V (Tx.text 11 n s.data.toList)) ∧ Below w.heap.size w w' := by
 obtain ⟨R, hR⟩ : ∃ R, Tx.text 11 n s.data.toList = R := ⟨_, rfl⟩
 have he := Tx.textR_dat 11 n s.data.toList (by decide)
 rw [show Tx.kind 11 = 3 from rfl, hR] at he
 rw [hR]
 clear hR
 have hkk := kindsR_any 11
 rw [show Tx.kind 11 = 3 from rfl] at hkk
 have hck := fun w => CheckR_any 3 n s w hs (by omega)
 obtain ⟨w3, hw3, hT, hb3⟩ := Tx.startR w 11 a z n s
 obtain ⟨O, hO⟩ : ∃ O, Tx.ok 3 n s.data.toList = O := ⟨_, rfl⟩
 rw [hO] at he
 have hck2 : ∀ w, Calls Try.prog 15 #[.agg #[.int .i64 3, .int .i64 n, .string s, .slice none 0 0, .slice none 0 0, .slice none 0 0]] w fun e w' => e = .returned (.int .i64 (if O = true then 0 else 20)) ∧ Below w.heap.size w w' := by rw [← hO]; exact hck
 have HE := Lib.hid he
 have HOK := Lib.hid hO
 clear he hck
 have HT := Lib.hid hT
 have HB3 := Lib.hid hb3
 obtain ⟨c0, c3, c4, cl⟩ := hT
 clear cl hb3
 cases O with
 | false =>
  have HR : Hid (R = none) := by show _ = _; rw [HE.out]; rfl
  have hck3 : ∀ w, Calls Try.prog 15 #[.agg #[.int .i64 3, .int .i64 n, .string s, .slice none 0 0, .slice none 0 0, .slice none 0 0]] w fun e w' => e = .returned (.int .i64 20) ∧ Below w.heap.size w w' := hck2
  clear hck2 HE HOK hO
  go_enter Try.func71, Try.ntmps71
  go_wp2_with (first
   | (go_at_call 94; refine (hkk _).mono ?_; rintro e w1 ⟨rfl, rfl⟩)
   | (go_at_call 15; refine (hck3 _).mono ?_; rintro e w4 ⟨rfl, hb4⟩))
  go_ret2
  exact ⟨by rw [HR.out, Tx.VRn]; rfl, HB3.out.trans (hb4.mono HB3.out.size)⟩
 | true =>
  have HR : Hid (R = some (Tx.datL 3 n s.data.toList)) := by show _ = _; rw [HE.out]; rfl
  have hck3 : ∀ w, Calls Try.prog 15 #[.agg #[.int .i64 3, .int .i64 n, .string s, .slice none 0 0, .slice none 0 0, .slice none 0 0]] w fun e w' => e = .returned (.int .i64 0) ∧ Below w.heap.size w w' := hck2
  clear hck2 HE hO
  go_enter Try.func71, Try.ntmps71
  go_wp2_with (go_at_call 94; refine (hkk _).mono ?_; rintro e w1 ⟨rfl, rfl⟩)
  refine (hck3 _).mono ?_
  rintro e w4 ⟨rfl, hbq⟩
  have HB4 := Lib.hid (HB3.out.trans (hbq.mono HB3.out.size))
  have hT4 := HT.out.below hbq
  have HT4 := Lib.hid hT4
  obtain ⟨t0, t3, t4, tl⟩ := hT4
  clear hbq tl c0 c3 c4 hw3 hck3
  have hF : 0 ≤ n ∧ n ≤ 127 := by
   have h := HOK.out
   unfold Tx.ok at h
   rw [if_neg (by decide), if_neg (by decide), if_pos rfl, Bool.and_eq_true, Bool.and_eq_true, decide_eq_true_iff, decide_eq_true_iff] at h
   exact h.1
  obtain ⟨m, rfl⟩ := Int.eq_ofNat_of_zero_le hF.1
  have hm : m < 128 := by omega
  have HD : Hid (Tx.datL 3 (m : Int) s.data.toList = 35 :: 92 :: Tx.letL m) := rfl
  clear hF
  go_wp2_with (go_at_call 96; refine (charTextR_any m hm _).mono ?_; rintro e w5 ⟨rfl, hb5⟩)
  go_ret2
  exact ⟨by rw [HR.out, HD.out, Tx.VRs]; rfl, HB4.out.trans (hb5.mono HB4.out.size)⟩
set_option maxRecDepth 100000 in
set_option maxHeartbeats 8000000 in
theorem TextR12_any (a z n : Int) (s : ByteArray) (w : World) (hs : s.size ≤ 1000000) :
  Calls Try.prog 71 #[.agg #[.int .i64 12, .int .i64 a, .int .i64 z, .int .i64 n, .string s]] w fun e w' => e = .returned (Tx.V (Tx.text 12 n s.data.toList)) ∧ Below w.heap.size w w' := by
 obtain ⟨R, hR⟩ : ∃ R, Tx.text 12 n s.data.toList = R := ⟨_, rfl⟩
 have he := Tx.textR_dat 12 n s.data.toList (by decide)
 rw [show Tx.kind 12 = 4 from rfl, hR] at he
 rw [hR]
 clear hR
 have hkk := kindsR_any 12
 rw [show Tx.kind 12 = 4 from rfl] at hkk
 have hck := fun w => CheckR_any 4 n s w hs (by omega)
 obtain ⟨w3, hw3, hT, hb3⟩ := Tx.startR w 12 a z n s
 obtain ⟨O, hO⟩ : ∃ O, Tx.ok 4 n s.data.toList = O := ⟨_, rfl⟩
 rw [hO] at he
 have hck2 : ∀ w, Calls Try.prog 15 #[.agg #[.int .i64 4, .int .i64 n, .string s, .slice none 0 0, .slice none 0 0, .slice none 0 0]] w fun e w' => e = .returned (.int .i64 (if O = true then 0 else 20)) ∧ Below w.heap.size w w' := by rw [← hO]; exact hck
 have HE := Lib.hid he
 have HOK := Lib.hid hO
 clear he hck
 have HT := Lib.hid hT
 have HB3 := Lib.hid hb3
 obtain ⟨c0, c3, c4, cl⟩ := hT
 clear cl hb3
 cases O with
 | false =>
  have HR : Hid (R = none) := by show _ = _; rw [HE.out]; rfl
  have hck3 : ∀ w, Calls Try.prog 15 #[.agg #[.int .i64 4, .int .i64 n, .string s, .slice none 0 0, .slice none 0 0, .slice none 0 0]] w fun e w' => e = .returned (.int .i64 20) ∧ Below w.heap.size w w' := hck2
  clear hck2 HE HOK hO
  go_enter Try.func71, Try.ntmps71
  go_wp2_with (first
   | (go_at_call 94; refine (hkk _).mono ?_; rintro e w1 ⟨rfl, rfl⟩)
   | (go_at_call 15; refine (hck3 _).mono ?_; rintro e w4 ⟨rfl, hb4⟩))
  go_ret2
  exact ⟨by rw [HR.out, Tx.VRn]; rfl, HB3.out.trans (hb4.mono HB3.out.size)⟩
 | true =>
  have HR : Hid (R = some (Tx.datL 4 n s.data.toList)) := by show _ = _; rw [HE.out]; rfl
  have hck3 : ∀ w, Calls Try.prog 15 #[.agg #[.int .i64 4, .int .i64 n, .string s, .slice none 0 0, .slice none 0 0, .slice none 0 0]] w fun e w' => e = .returned (.int .i64 0) ∧ Below w.heap.size w w' := hck2
  clear hck2 HE hO
  go_enter Try.func71, Try.ntmps71
  go_wp2_with (go_at_call 94; refine (hkk _).mono ?_; rintro e w1 ⟨rfl, rfl⟩)
  refine (hck3 _).mono ?_
  rintro e w4 ⟨rfl, hbq⟩
  have HB4 := Lib.hid (HB3.out.trans (hbq.mono HB3.out.size))
  have hT4 := HT.out.below hbq
  have HT4 := Lib.hid hT4
  obtain ⟨t0, t3, t4, tl⟩ := hT4
  clear hbq tl c0 c3 c4 hw3 hck3
  have hF : s.size ≤ 256 ∧ ∀ j, (h : j < s.size) → s[j].toNat < 128 := by
   have h := HOK.out
   unfold Tx.ok at h
   rw [if_neg (by decide), if_neg (by decide), if_neg (by decide), if_pos rfl, Bool.and_eq_true, Bool.and_eq_true, decide_eq_true_iff, decide_eq_true_iff, Fx.size_toList, List.all_eq_true] at h
   refine ⟨h.2.1, fun j hj => ?_⟩
   have := h.2.2 s[j] (by
    have hj2 : j < s.data.toList.length := by rw [Fx.size_toList]; exact hj
    have : s.data.toList[j] = s[j] := rfl
    rw [← this]
    exact List.getElem_mem hj2)
   simpa using this
  have HD : Hid (Tx.datL 4 n s.data.toList = Tx.quotL s.data.toList) := rfl
  have hq := fun w => quotedR_any s w hF.1 hF.2
  clear hF
  go_wp2_with (go_at_call 97; refine (hq _).mono ?_; rintro e w5 ⟨rfl, hb5⟩)
  go_ret2
  exact ⟨by rw [HR.out, HD.out, Tx.VRs]; rfl, HB4.out.trans (hb5.mono HB4.out.size)⟩
end Go.Proofs.Ytcopdfihaheplaa
