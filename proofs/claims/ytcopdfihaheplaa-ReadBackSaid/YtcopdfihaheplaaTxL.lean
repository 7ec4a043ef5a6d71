/-
 The walk of the text of a word that is a datum.
-/
import Derived.Test.YtcopdfihaheplaaTxF
import Derived.Test.YtcopdfihaheplaaFixText
import Derived.Lib.QuietBelow
namespace Go.Proofs.Ytcopdfihaheplaa
open Go.RowKit Go.Sort
namespace Tx
theorem text_dat (k n : Int) (l : List UInt8) (h : kind k ≠ 0) : text k n l = if ok (kind k) n l = true then some (datL (kind k) n l) else none := by
 unfold text
 rw [if_pos h]
structure TokAt (w : World) (b : Nat) (k n : Int) (s : ByteArray) : Prop where
 c0 : w.cell? ⟨b, 0, none⟩ = some (.int .i64 k)
 c3 : w.cell? ⟨b, 3, none⟩ = some (.int .i64 n)
 c4 : w.cell? ⟨b, 4, none⟩ = some (.string s)
 lt : b < w.heap.size
theorem TokAt.below {w w' : World} {b : Nat} {k n : Int} {s : ByteArray} (h : TokAt w b k n s) (hb : Below w.heap.size w w') : TokAt w' b k n s :=
 ⟨(hb.cell (p := ⟨b, 0, none⟩) h.lt).trans h.c0, (hb.cell (p := ⟨b, 3, none⟩) h.lt).trans h.c3, (hb.cell (p := ⟨b, 4, none⟩) h.lt).trans h.c4, Nat.lt_of_lt_of_le h.lt hb.size⟩
theorem bel3b (w : World) (a b c : Obj) : Below w.heap.size w (((w.alloc a).alloc b).alloc c) := ((((Below.refl _ _).alloc (Nat.le_refl _) a).alloc (by rw [World.size_alloc]; omega) b)).alloc (by rw [World.size_alloc, World.size_alloc]; omega) c
theorem Vs (l : List UInt8) : V (some l) = .tuple #[.string ⟨l.toArray⟩, .int .i64 0] := rfl
theorem Vn : V none = .tuple #[.string ⟨#[]⟩, .int .i64 30] := rfl
theorem start (w : World) (k a z n : Int) (s : ByteArray) : ∃ w3, ((w.alloc (.cells #[.int .i64 k, .int .i64 a, .int .i64 z, .int .i64 n, .string s] 47)).alloc (.cells #[.int .i64 0, .int .i64 0, .int .i64 0, .int .i64 0, .int .i64 0, .int .i64 0, .int .i64 0, .int .i64 0, .int .i64 0, .int .i64 1, .int .i64 2, .int .i64 3, .int .i64 4, .int .i64 5] 107)).alloc
  (.cells #[.string ⟨#[]⟩, .string ⟨#[40]⟩, .string ⟨#[41]⟩, .string ⟨#[35, 40]⟩, .string ⟨#[39]⟩, .string ⟨#[96]⟩, .string ⟨#[44]⟩, .string ⟨#[44, 64]⟩, .string ⟨#[46]⟩] 115) = w3 ∧
  TokAt w3 w.heap.size k n s ∧ Below w.heap.size w w3 ∧ (∀ j : Nat, 9 ≤ j → j ≤ 13 → w3.cell? ⟨w.heap.size + 1, j, none⟩ = some (.int .i64 (j - 8 : Nat))) := by
 refine ⟨_, rfl, ?_, bel3b _ _ _ _, ?_⟩
 ·obtain ⟨X, hX⟩ : ∃ X, w.alloc (.cells #[.int .i64 k, .int .i64 a, .int .i64 z, .int .i64 n, .string s] 47) = X := ⟨_, rfl⟩
  have hh : X.heap[w.heap.size]? = some (.cells #[.int .i64 k, .int .i64 a, .int .i64 z, .int .i64 n, .string s] 47 (0, 0)) := by
   rw [← hX]; show (w.heap.push _)[w.heap.size]? = _; simp
  have hT : TokAt X w.heap.size k n s := ⟨by rw [Lib.cell_of_heap hh]; rfl, by rw [Lib.cell_of_heap hh]; rfl, by rw [Lib.cell_of_heap hh]; rfl, by rw [← hX, World.size_alloc]; omega⟩
  rw [hX]
  exact hT.below (bel2 _ _ _)
 ·intro j h1 h2
  obtain ⟨X, hX⟩ : ∃ X, w.alloc (.cells #[.int .i64 k, .int .i64 a, .int .i64 z, .int .i64 n, .string s] 47) = X := ⟨_, rfl⟩
  have hs : X.heap.size = w.heap.size + 1 := by rw [← hX, World.size_alloc]
  rw [hX]
  obtain ⟨Y, hY⟩ : ∃ Y, X.alloc (.cells #[.int .i64 0, .int .i64 0, .int .i64 0, .int .i64 0, .int .i64 0, .int .i64 0, .int .i64 0, .int .i64 0, .int .i64 0, .int .i64 1, .int .i64 2, .int .i64 3, .int .i64 4, .int .i64 5] 107) = Y := ⟨_, rfl⟩
  have hh : Y.heap[w.heap.size + 1]? = some (.cells #[.int .i64 0, .int .i64 0, .int .i64 0, .int .i64 0, .int .i64 0, .int .i64 0, .int .i64 0, .int .i64 0, .int .i64 0, .int .i64 1, .int .i64 2, .int .i64 3, .int .i64 4, .int .i64 5] 107 (0, 0)) := by
   rw [← hY, ← hs]; show (X.heap.push _)[X.heap.size]? = _; simp
  rw [hY, Below.cell ((Below.refl Y.heap.size Y).alloc (Nat.le_refl _) _) (by rw [← hY, World.size_alloc]; show w.heap.size + 1 < _; omega), Lib.cell_of_heap hh]
  match j, h1, h2 with
  | 9, _, _ => rfl
  | 10, _, _ => rfl
  | 11, _, _ => rfl
  | 12, _, _ => rfl
  | 13, _, _ => rfl
end Tx
namespace Tx
theorem let_len (n : Nat) : (letL n).length ≤ 7 := by
 unfold letL
 split
 ·simp
 split
 ·simp
 split
 ·simp
 split
 ·simp
 split
 ·simp
 ·simp [pairL]
theorem escL_len (c : UInt8) : (escL c).length ≤ 4 := by
 unfold escL
 split
 ·simp
 split
 ·simp
 split
 ·simp
 split
 ·simp
 split
 ·simp
 ·simp [pairL]
theorem escsL_cons (c : UInt8) (l : List UInt8) : escsL (c :: l) = escL c ++ escsL l := by simp [escsL]
end Tx
set_option maxRecDepth 100000 in
set_option maxHeartbeats 8000000 in
theorem Text9_any (a z n : Int) (s : ByteArray) (w : World) (hs : s.size ≤ 1000000) (hn : -9223372036854775808 ≤ n ∧ n ≤ 9223372036854775807) :
  Calls Try.prog 52 #[.agg #[.int .i64 9, .int .i64 a, .int .i64 z, .int .i64 n, .string s]] w fun e w' => e = .returned (Tx.V (Tx.text 9 n s.data.toList)) ∧ Below w.heap.size w w' := by
 obtain ⟨R, hR⟩ : ∃ R, Tx.text 9 n s.data.toList = R := ⟨_, rfl⟩
 have he := Tx.text_dat 9 n s.data.toList (by decide)
 rw [show Tx.kind 9 = 1 from rfl, hR] at he
 rw [hR]
 clear hR
 have hck := fun w => CheckD_any 1 n s w hs hn (by omega)
 obtain ⟨w3, hw3, hT, hb3, hkd⟩ := Tx.start w 9 a z n s
 have hk9 := hkd 9 (by omega) (by omega)
 obtain ⟨O, hO⟩ : ∃ O, Tx.ok 1 n s.data.toList = O := ⟨_, rfl⟩
 rw [hO] at he
 have hck2 : ∀ w, Calls Try.prog 19 #[.agg #[.int .i64 1, .int .i64 n, .string s, .slice none 0 0, .slice none 0 0, .slice none 0 0]] w fun e w' => e = .returned (.int .i64 (if O = true then 0 else 20)) ∧ Below w.heap.size w w' := by rw [← hO]; exact hck
 have HE := Lib.hid he
 have HOK := Lib.hid hO
 clear he hkd hck
 have HT := Lib.hid hT
 have HB3 := Lib.hid hb3
 obtain ⟨c0, c3, c4, cl⟩ := hT
 have q0 := cell_regrown c0
 have q3 := cell_regrown c3
 have q4 := cell_regrown c4
 have q9 := cell_regrown hk9
 clear cl hb3
 cases O with
 | false =>
  have HR : Hid (R = none) := by show _ = _; rw [HE.out]; rfl
  have cV : ∀ d os, Calls Try.prog 19 #[.agg #[.int .i64 1, .int .i64 n, .string s, .slice none 0 0, .slice none 0 0, .slice none 0 0]] (grow (redrawn w3 d) os) fun e w'' => e = .returned (.int .i64 20) ∧ ∃ p : Regrown, w'' = grow (redrawn w3 p.d) p.os := fun d os => Calls.regrown_of (hck2 _)
  clear hck2 HE HOK hO
  go_enter Try.func52, Try.ntmps52
  go_wp2
  refine wp_region_quiet_below (by kernel_rfl) (by kernel_rfl) ?_
  repeat (go_big_quiet_step (exact cV _ _))
  refine wpQuiet_nil ?_
  intro _ hw'
  obtain ⟨⟨dq, osq⟩, hw''⟩ := hw'
  subst hw''
  have hbq := below_regrown w3 dq osq
  obtain ⟨w4, hw4⟩ : ∃ w4, grow (redrawn w3 dq) osq = w4 := ⟨_, rfl⟩
  rw [hw4] at hbq ⊢
  have HB4 := Lib.hid (HB3.out.trans (hbq.mono HB3.out.size))
  clear cV q0 q3 q4 q9 hw4 hbq
  go_wp2
  go_ret2
  exact ⟨by rw [HR.out, Tx.Vn]; rfl, HB4.out⟩
 | true =>
  have HR : Hid (R = some (Tx.datL 1 n s.data.toList)) := by show _ = _; rw [HE.out]; rfl
  have cV : ∀ d os, Calls Try.prog 19 #[.agg #[.int .i64 1, .int .i64 n, .string s, .slice none 0 0, .slice none 0 0, .slice none 0 0]] (grow (redrawn w3 d) os) fun e w'' => e = .returned (.int .i64 0) ∧ ∃ p : Regrown, w'' = grow (redrawn w3 p.d) p.os := fun d os => Calls.regrown_of (hck2 _)
  clear hck2 HE hO
  go_enter Try.func52, Try.ntmps52
  go_wp2
  refine wp_region_quiet_below (by kernel_rfl) (by kernel_rfl) ?_
  repeat (go_big_quiet_step (exact cV _ _))
  refine wpQuiet_nil ?_
  intro _ hw'
  obtain ⟨⟨dq, osq⟩, hw''⟩ := hw'
  subst hw''
  have hbq := below_regrown w3 dq osq
  obtain ⟨w4, hw4⟩ : ∃ w4, grow (redrawn w3 dq) osq = w4 := ⟨_, rfl⟩
  rw [hw4] at hbq ⊢
  have HB4 := Lib.hid (HB3.out.trans (hbq.mono HB3.out.size))
  have hT4 := HT.out.below hbq
  have HT4 := Lib.hid hT4
  obtain ⟨t0, t3, t4, tl⟩ := hT4
  clear cV q0 q3 q4 q9 hw4 hbq tl c0 c3 c4 hk9 hw3
  have hF : Fx.isF n = true := by
   have h := HOK.out
   unfold Tx.ok at h
   rw [if_pos rfl, Bool.and_eq_true] at h
   exact h.1
  have HD : Hid (Tx.datL 1 n s.data.toList = Fx.textL n) := rfl
  have HF := Lib.hid hF
  clear hF
  go_wp2_with (go_at_call 79; refine (Text_ok n _ HF.out).mono ?_; rintro e w5 ⟨rfl, hb5⟩)
  go_ret2
  exact ⟨by rw [HR.out, HD.out, Tx.Vs]; rfl, HB4.out.trans (hb5.mono HB4.out.size)⟩
set_option maxRecDepth 100000 in
set_option maxHeartbeats 8000000 in
theorem Text10_any (a z n : Int) (s : ByteArray) (w : World) (hs : s.size ≤ 1000000) (hn : -9223372036854775808 ≤ n ∧ n ≤ 9223372036854775807) :
  Calls Try.prog 52 #[.agg #[.int .i64 10, .int .i64 a, .int .i64 z, .int .i64 n, .string s]] w fun e w' => e = .returned (Tx.V (Tx.text 10 n s.data.toList)) ∧ Below w.heap.size w w' := by
 obtain ⟨R, hR⟩ : ∃ R, Tx.text 10 n s.data.toList = R := ⟨_, rfl⟩
 have he := Tx.text_dat 10 n s.data.toList (by decide)
 rw [show Tx.kind 10 = 2 from rfl, hR] at he
 rw [hR]
 clear hR
 have hck := fun w => CheckD_any 2 n s w hs hn (by omega)
 obtain ⟨w3, hw3, hT, hb3, hkd⟩ := Tx.start w 10 a z n s
 have hk9 := hkd 10 (by omega) (by omega)
 obtain ⟨O, hO⟩ : ∃ O, Tx.ok 2 n s.data.toList = O := ⟨_, rfl⟩
 rw [hO] at he
 have hck2 : ∀ w, Calls Try.prog 19 #[.agg #[.int .i64 2, .int .i64 n, .string s, .slice none 0 0, .slice none 0 0, .slice none 0 0]] w fun e w' => e = .returned (.int .i64 (if O = true then 0 else 20)) ∧ Below w.heap.size w w' := by rw [← hO]; exact hck
 have HE := Lib.hid he
 have HOK := Lib.hid hO
 clear he hkd hck
 have HT := Lib.hid hT
 have HB3 := Lib.hid hb3
 obtain ⟨c0, c3, c4, cl⟩ := hT
 have q0 := cell_regrown c0
 have q3 := cell_regrown c3
 have q4 := cell_regrown c4
 have q9 := cell_regrown hk9
 clear cl hb3
 cases O with
 | false =>
  have HR : Hid (R = none) := by show _ = _; rw [HE.out]; rfl
  have cV : ∀ d os, Calls Try.prog 19 #[.agg #[.int .i64 2, .int .i64 n, .string s, .slice none 0 0, .slice none 0 0, .slice none 0 0]] (grow (redrawn w3 d) os) fun e w'' => e = .returned (.int .i64 20) ∧ ∃ p : Regrown, w'' = grow (redrawn w3 p.d) p.os := fun d os => Calls.regrown_of (hck2 _)
  clear hck2 HE HOK hO
  go_enter Try.func52, Try.ntmps52
  go_wp2
  refine wp_region_quiet_below (by kernel_rfl) (by kernel_rfl) ?_
  repeat (go_big_quiet_step (exact cV _ _))
  refine wpQuiet_nil ?_
  intro _ hw'
  obtain ⟨⟨dq, osq⟩, hw''⟩ := hw'
  subst hw''
  have hbq := below_regrown w3 dq osq
  obtain ⟨w4, hw4⟩ : ∃ w4, grow (redrawn w3 dq) osq = w4 := ⟨_, rfl⟩
  rw [hw4] at hbq ⊢
  have HB4 := Lib.hid (HB3.out.trans (hbq.mono HB3.out.size))
  clear cV q0 q3 q4 q9 hw4 hbq
  go_wp2
  go_ret2
  exact ⟨by rw [HR.out, Tx.Vn]; rfl, HB4.out⟩
 | true =>
  have HR : Hid (R = some (Tx.datL 2 n s.data.toList)) := by show _ = _; rw [HE.out]; rfl
  have cV : ∀ d os, Calls Try.prog 19 #[.agg #[.int .i64 2, .int .i64 n, .string s, .slice none 0 0, .slice none 0 0, .slice none 0 0]] (grow (redrawn w3 d) os) fun e w'' => e = .returned (.int .i64 0) ∧ ∃ p : Regrown, w'' = grow (redrawn w3 p.d) p.os := fun d os => Calls.regrown_of (hck2 _)
  clear hck2 HE hO
  go_enter Try.func52, Try.ntmps52
  go_wp2
  refine wp_region_quiet_below (by kernel_rfl) (by kernel_rfl) ?_
  repeat (go_big_quiet_step (exact cV _ _))
  refine wpQuiet_nil ?_
  intro _ hw'
  obtain ⟨⟨dq, osq⟩, hw''⟩ := hw'
  subst hw''
  have hbq := below_regrown w3 dq osq
  obtain ⟨w4, hw4⟩ : ∃ w4, grow (redrawn w3 dq) osq = w4 := ⟨_, rfl⟩
  rw [hw4] at hbq ⊢
  have HB4 := Lib.hid (HB3.out.trans (hbq.mono HB3.out.size))
  have hT4 := HT.out.below hbq
  have HT4 := Lib.hid hT4
  obtain ⟨t0, t3, t4, tl⟩ := hT4
  clear cV q0 q3 q4 q9 hw4 hbq tl c0 c3 c4 hk9 hw3
  have hF : n = 0 ∨ n = 1 := by
   have h := HOK.out
   unfold Tx.ok at h
   rw [if_neg (by decide), if_pos rfl, Bool.and_eq_true, Bool.or_eq_true, decide_eq_true_iff, decide_eq_true_iff] at h
   exact h.1
  obtain ⟨w5, hw5⟩ : ∃ w5, w4.alloc (.cells #[.string ⟨#[35, 102]⟩, .string ⟨#[35, 116]⟩] 9) = w5 := ⟨_, rfl⟩
  have hh : w5.heap[w4.heap.size]? = some (.cells #[.string ⟨#[35, 102]⟩, .string ⟨#[35, 116]⟩] 9 (0, 0)) := by
   rw [← hw5]; show (w4.heap.push _)[w4.heap.size]? = _; simp
  have u0 : w5.cell? ⟨w4.heap.size, 0, none⟩ = some (.string ⟨#[35, 102]⟩) := by rw [Lib.cell_of_heap hh]; rfl
  have u1 : w5.cell? ⟨w4.heap.size, 1, none⟩ = some (.string ⟨#[35, 116]⟩) := by rw [Lib.cell_of_heap hh]; rfl
  have hb5 : RowKit.Below w4.heap.size w4 w5 := by rw [← hw5]; exact (RowKit.Below.refl _ _).alloc (Nat.le_refl _) _
  have s3 := (HT4.out.below hb5).c3
  have HB5 := Lib.hid (HB4.out.trans (hb5.mono HB4.out.size))
  clear hh hb5
  rcases hF with rfl | rfl
  ·have HD : Hid (Tx.datL 2 0 s.data.toList = [35, 102]) := rfl
   go_wp2
   go_ret2
   exact ⟨by rw [HR.out, HD.out, Tx.Vs]; rfl, HB5.out⟩
  ·have HD : Hid (Tx.datL 2 1 s.data.toList = [35, 116]) := rfl
   go_wp2
   go_ret2
   exact ⟨by rw [HR.out, HD.out, Tx.Vs]; rfl, HB5.out⟩
set_option maxRecDepth 100000 in
set_option maxHeartbeats 8000000 in
theorem Text11_any (a z n : Int) (s : ByteArray) (w : World) (hs : s.size ≤ 1000000) (hn : -9223372036854775808 ≤ n ∧ n ≤ 9223372036854775807) :
  Calls Try.prog 52 #[.agg #[.int .i64 11, .int .i64 a, .int .i64 z, .int .i64 n, .string s]] w fun e w' => e = .returned (Tx.V (Tx.text 11 n s.data.toList)) ∧ Below w.heap.size w w' := by
 obtain ⟨R, hR⟩ : ∃ R, Tx.text 11 n s.data.toList = R := ⟨_, rfl⟩
 have he := Tx.text_dat 11 n s.data.toList (by decide)
 rw [show Tx.kind 11 = 3 from rfl, hR] at he
 rw [hR]
 clear hR
 have hck := fun w => CheckD_any 3 n s w hs hn (by omega)
 obtain ⟨w3, hw3, hT, hb3, hkd⟩ := Tx.start w 11 a z n s
 have hk9 := hkd 11 (by omega) (by omega)
 obtain ⟨O, hO⟩ : ∃ O, Tx.ok 3 n s.data.toList = O := ⟨_, rfl⟩
 rw [hO] at he
 have hck2 : ∀ w, Calls Try.prog 19 #[.agg #[.int .i64 3, .int .i64 n, .string s, .slice none 0 0, .slice none 0 0, .slice none 0 0]] w fun e w' => e = .returned (.int .i64 (if O = true then 0 else 20)) ∧ Below w.heap.size w w' := by rw [← hO]; exact hck
 have HE := Lib.hid he
 have HOK := Lib.hid hO
 clear he hkd hck
 have HT := Lib.hid hT
 have HB3 := Lib.hid hb3
 obtain ⟨c0, c3, c4, cl⟩ := hT
 have q0 := cell_regrown c0
 have q3 := cell_regrown c3
 have q4 := cell_regrown c4
 have q9 := cell_regrown hk9
 clear cl hb3
 cases O with
 | false =>
  have HR : Hid (R = none) := by show _ = _; rw [HE.out]; rfl
  have cV : ∀ d os, Calls Try.prog 19 #[.agg #[.int .i64 3, .int .i64 n, .string s, .slice none 0 0, .slice none 0 0, .slice none 0 0]] (grow (redrawn w3 d) os) fun e w'' => e = .returned (.int .i64 20) ∧ ∃ p : Regrown, w'' = grow (redrawn w3 p.d) p.os := fun d os => Calls.regrown_of (hck2 _)
  clear hck2 HE HOK hO
  go_enter Try.func52, Try.ntmps52
  go_wp2
  refine wp_region_quiet_below (by kernel_rfl) (by kernel_rfl) ?_
  repeat (go_big_quiet_step (exact cV _ _))
  refine wpQuiet_nil ?_
  intro _ hw'
  obtain ⟨⟨dq, osq⟩, hw''⟩ := hw'
  subst hw''
  have hbq := below_regrown w3 dq osq
  obtain ⟨w4, hw4⟩ : ∃ w4, grow (redrawn w3 dq) osq = w4 := ⟨_, rfl⟩
  rw [hw4] at hbq ⊢
  have HB4 := Lib.hid (HB3.out.trans (hbq.mono HB3.out.size))
  clear cV q0 q3 q4 q9 hw4 hbq
  go_wp2
  go_ret2
  exact ⟨by rw [HR.out, Tx.Vn]; rfl, HB4.out⟩
 | true =>
  have HR : Hid (R = some (Tx.datL 3 n s.data.toList)) := by show _ = _; rw [HE.out]; rfl
  have cV : ∀ d os, Calls Try.prog 19 #[.agg #[.int .i64 3, .int .i64 n, .string s, .slice none 0 0, .slice none 0 0, .slice none 0 0]] (grow (redrawn w3 d) os) fun e w'' => e = .returned (.int .i64 0) ∧ ∃ p : Regrown, w'' = grow (redrawn w3 p.d) p.os := fun d os => Calls.regrown_of (hck2 _)
  clear hck2 HE hO
  go_enter Try.func52, Try.ntmps52
  go_wp2
  refine wp_region_quiet_below (by kernel_rfl) (by kernel_rfl) ?_
  repeat (go_big_quiet_step (exact cV _ _))
  refine wpQuiet_nil ?_
  intro _ hw'
  obtain ⟨⟨dq, osq⟩, hw''⟩ := hw'
  subst hw''
  have hbq := below_regrown w3 dq osq
  obtain ⟨w4, hw4⟩ : ∃ w4, grow (redrawn w3 dq) osq = w4 := ⟨_, rfl⟩
  rw [hw4] at hbq ⊢
  have HB4 := Lib.hid (HB3.out.trans (hbq.mono HB3.out.size))
  have hT4 := HT.out.below hbq
  have HT4 := Lib.hid hT4
  obtain ⟨t0, t3, t4, tl⟩ := hT4
  clear cV q0 q3 q4 q9 hw4 hbq tl c0 c3 c4 hk9 hw3
  have hF : 0 ≤ n ∧ n ≤ 127 := by
   have h := HOK.out
   unfold Tx.ok at h
   rw [if_neg (by decide), if_neg (by decide), if_pos rfl, Bool.and_eq_true, Bool.and_eq_true, decide_eq_true_iff, decide_eq_true_iff] at h
   exact h.1
  obtain ⟨m, rfl⟩ := Int.eq_ofNat_of_zero_le hF.1
  have hm : m < 128 := by omega
  have HD : Hid (Tx.datL 3 (m : Int) s.data.toList = 35 :: 92 :: Tx.letL m) := rfl
  have HC := Tx.cat [35, 92] (Tx.letL m) (by simp) (by have := Tx.let_len m; omega)
  clear hF
  go_wp2_with (go_at_call 80; refine (letter_any m hm _).mono ?_; rintro e w5 ⟨rfl, hb5⟩)
  go_ret2
  exact ⟨by rw [HR.out, HD.out, Tx.Vs]; rfl, HB4.out.trans (hb5.mono HB4.out.size)⟩
set_option maxRecDepth 100000 in
set_option maxHeartbeats 8000000 in
theorem Text12_any (a z n : Int) (s : ByteArray) (w : World) (hs : s.size ≤ 1000000) (hn : -9223372036854775808 ≤ n ∧ n ≤ 9223372036854775807) :
  Calls Try.prog 52 #[.agg #[.int .i64 12, .int .i64 a, .int .i64 z, .int .i64 n, .string s]] w fun e w' => e = .returned (Tx.V (Tx.text 12 n s.data.toList)) ∧ Below w.heap.size w w' := by
 obtain ⟨R, hR⟩ : ∃ R, Tx.text 12 n s.data.toList = R := ⟨_, rfl⟩
 have he := Tx.text_dat 12 n s.data.toList (by decide)
 rw [show Tx.kind 12 = 4 from rfl, hR] at he
 rw [hR]
 clear hR
 have hck := fun w => CheckD_any 4 n s w hs hn (by omega)
 obtain ⟨w3, hw3, hT, hb3, hkd⟩ := Tx.start w 12 a z n s
 have hk9 := hkd 12 (by omega) (by omega)
 obtain ⟨O, hO⟩ : ∃ O, Tx.ok 4 n s.data.toList = O := ⟨_, rfl⟩
 rw [hO] at he
 have hck2 : ∀ w, Calls Try.prog 19 #[.agg #[.int .i64 4, .int .i64 n, .string s, .slice none 0 0, .slice none 0 0, .slice none 0 0]] w fun e w' => e = .returned (.int .i64 (if O = true then 0 else 20)) ∧ Below w.heap.size w w' := by rw [← hO]; exact hck
 have HE := Lib.hid he
 have HOK := Lib.hid hO
 clear he hkd hck
 have HT := Lib.hid hT
 have HB3 := Lib.hid hb3
 obtain ⟨c0, c3, c4, cl⟩ := hT
 have q0 := cell_regrown c0
 have q3 := cell_regrown c3
 have q4 := cell_regrown c4
 have q9 := cell_regrown hk9
 clear cl hb3
 cases O with
 | false =>
  have HR : Hid (R = none) := by show _ = _; rw [HE.out]; rfl
  have cV : ∀ d os, Calls Try.prog 19 #[.agg #[.int .i64 4, .int .i64 n, .string s, .slice none 0 0, .slice none 0 0, .slice none 0 0]] (grow (redrawn w3 d) os) fun e w'' => e = .returned (.int .i64 20) ∧ ∃ p : Regrown, w'' = grow (redrawn w3 p.d) p.os := fun d os => Calls.regrown_of (hck2 _)
  clear hck2 HE HOK hO
  go_enter Try.func52, Try.ntmps52
  go_wp2
  refine wp_region_quiet_below (by kernel_rfl) (by kernel_rfl) ?_
  repeat (go_big_quiet_step (exact cV _ _))
  refine wpQuiet_nil ?_
  intro _ hw'
  obtain ⟨⟨dq, osq⟩, hw''⟩ := hw'
  subst hw''
  have hbq := below_regrown w3 dq osq
  obtain ⟨w4, hw4⟩ : ∃ w4, grow (redrawn w3 dq) osq = w4 := ⟨_, rfl⟩
  rw [hw4] at hbq ⊢
  have HB4 := Lib.hid (HB3.out.trans (hbq.mono HB3.out.size))
  clear cV q0 q3 q4 q9 hw4 hbq
  go_wp2
  go_ret2
  exact ⟨by rw [HR.out, Tx.Vn]; rfl, HB4.out⟩
 | true =>
  have HR : Hid (R = some (Tx.datL 4 n s.data.toList)) := by show _ = _; rw [HE.out]; rfl
  have cV : ∀ d os, Calls Try.prog 19 #[.agg #[.int .i64 4, .int .i64 n, .string s, .slice none 0 0, .slice none 0 0, .slice none 0 0]] (grow (redrawn w3 d) os) fun e w'' => e = .returned (.int .i64 0) ∧ ∃ p : Regrown, w'' = grow (redrawn w3 p.d) p.os := fun d os => Calls.regrown_of (hck2 _)
  clear hck2 HE hO
  go_enter Try.func52, Try.ntmps52
  go_wp2
  refine wp_region_quiet_below (by kernel_rfl) (by kernel_rfl) ?_
  repeat (go_big_quiet_step (exact cV _ _))
  refine wpQuiet_nil ?_
  intro _ hw'
  obtain ⟨⟨dq, osq⟩, hw''⟩ := hw'
  subst hw''
  have hbq := below_regrown w3 dq osq
  obtain ⟨w4, hw4⟩ : ∃ w4, grow (redrawn w3 dq) osq = w4 := ⟨_, rfl⟩
  rw [hw4] at hbq ⊢
  have HB4 := Lib.hid (HB3.out.trans (hbq.mono HB3.out.size))
  have hT4 := HT.out.below hbq
  have HT4 := Lib.hid hT4
  obtain ⟨t0, t3, t4, tl⟩ := hT4
  clear cV q0 q3 q4 q9 hw4 hbq tl c0 c3 c4 hk9 hw3
  have hF : s.size ≤ 256 := by
   have h := HOK.out
   unfold Tx.ok at h
   rw [if_neg (by decide), if_neg (by decide), if_neg (by decide), if_pos rfl, Bool.and_eq_true, Bool.and_eq_true, decide_eq_true_iff, decide_eq_true_iff, Fx.size_toList] at h
   exact h.2.1
  have HD : Hid (Tx.datL 4 n s.data.toList = 34 :: ([] ++ Tx.escsL (Lx.tl s 0) ++ [34])) := by show Tx.quotL s.data.toList = _; unfold Tx.quotL Lx.tl; simp
  obtain ⟨Q, hQ⟩ : ∃ Q, Tx.datL 4 n s.data.toList = Q := ⟨_, rfl⟩
  rw [hQ] at HR HD
  clear hQ
  go_wp2_with fail
  go_loopw [6, 73] (fun vo vi wr => ∃ (k : Nat) (p : List UInt8), vo = .string ⟨(34 :: p).toArray⟩ ∧ vi = .int .i64 k ∧ k ≤ s.size ∧ Hid (p.length ≤ 4 * k) ∧ Hid (Q = 34 :: (p ++ Tx.escsL (Lx.tl s k) ++ [34])) ∧ Below w4.heap.size w4 wr) (fun _ vi _ => s.size - (intOf vi).toNat)
  case atStart => exact ⟨0, [], rfl, rfl, by omega, by show _ ≤ _; simp, HD, Below.refl _ _⟩
  case round =>
   obtain ⟨k, p, rfl, rfl, hk, HP, HN, hbl⟩ := hrel
   have HBL := Lib.hid (HB4.out.trans (hbl.mono HB4.out.size))
   have HBW := Lib.hid hbl
   have hT5 := HT4.out.below hbl
   have r4 := hT5.c4
   clear hbl hT5 t0 t3 t4
   by_cases hlt : k < s.size
   case neg =>
    have hge : (s.size : Int) ≤ (k : Int) := by omega
    have HE : Hid (Q = 34 :: (p ++ [34])) := by show _ = _; rw [HN.out, Lx.tl_nil s k (by omega)]; simp [Tx.escsL]
    have HC := Tx.cat (34 :: p) [34] (by have := HP.out; simp; omega) (by simp)
    go_wp2
    go_ret2
    exact ⟨by rw [HR.out, HE.out, Tx.Vs]; rfl, HBL.out⟩
   have hlti : (k : Int) < (s.size : Int) := by omega
   have hr := HN.out
   rw [Lx.tl_cons s k hlt, Tx.escsL_cons] at hr
   obtain ⟨c, hc⟩ : ∃ c, s[k] = c := ⟨_, rfl⟩
   rw [hc] at hr
   have HN2 : Hid (Q = 34 :: ((p ++ Tx.escL c) ++ Tx.escsL (Lx.tl s (k + 1)) ++ [34])) := by show _ = _; rw [hr]; simp
   have HPN : Hid ((p ++ Tx.escL c).length ≤ 4 * (k + 1)) := by show _ ≤ _; have := HP.out; have := Tx.escL_len c; simp; omega
   have HC := Tx.cat (34 :: p) (Tx.escL c) (by have := HP.out; simp; omega) (by have := Tx.escL_len c; omega)
   have hE := escape_any c
   clear hr HN
   go_wp2_with (go_at_call 81; refine (hE _).mono ?_; rintro e w6 ⟨rfl, hb6⟩)
   go_roundw
   case rel => exact ⟨k + 1, p ++ Tx.escL c, by first | rfl | simp, by simp, by omega, HPN, HN2, HBW.out.trans (hb6.mono HBW.out.size)⟩
   case measure => simp [intOf]; omega
set_option maxRecDepth 100000 in
set_option maxHeartbeats 8000000 in
theorem Text13_any (a z n : Int) (s : ByteArray) (w : World) (hs : s.size ≤ 1000000) (hn : -9223372036854775808 ≤ n ∧ n ≤ 9223372036854775807) :
  Calls Try.prog 52 #[.agg #[.int .i64 13, .int .i64 a, .int .i64 z, .int .i64 n, .string s]] w fun e w' => e = .returned (Tx.V (Tx.text 13 n s.data.toList)) ∧ Below w.heap.size w w' := by
 obtain ⟨R, hR⟩ : ∃ R, Tx.text 13 n s.data.toList = R := ⟨_, rfl⟩
 have he := Tx.text_dat 13 n s.data.toList (by decide)
 rw [show Tx.kind 13 = 5 from rfl, hR] at he
 rw [hR]
 clear hR
 have hck := fun w => CheckD_any 5 n s w hs hn (by omega)
 obtain ⟨w3, hw3, hT, hb3, hkd⟩ := Tx.start w 13 a z n s
 have hk9 := hkd 13 (by omega) (by omega)
 obtain ⟨O, hO⟩ : ∃ O, Tx.ok 5 n s.data.toList = O := ⟨_, rfl⟩
 rw [hO] at he
 have hck2 : ∀ w, Calls Try.prog 19 #[.agg #[.int .i64 5, .int .i64 n, .string s, .slice none 0 0, .slice none 0 0, .slice none 0 0]] w fun e w' => e = .returned (.int .i64 (if O = true then 0 else 20)) ∧ Below w.heap.size w w' := by rw [← hO]; exact hck
 have HE := Lib.hid he
 have HOK := Lib.hid hO
 clear he hkd hck
 have HT := Lib.hid hT
 have HB3 := Lib.hid hb3
 obtain ⟨c0, c3, c4, cl⟩ := hT
 have q0 := cell_regrown c0
 have q3 := cell_regrown c3
 have q4 := cell_regrown c4
 have q9 := cell_regrown hk9
 clear cl hb3
 cases O with
 | false =>
  have HR : Hid (R = none) := by show _ = _; rw [HE.out]; rfl
  have cV : ∀ d os, Calls Try.prog 19 #[.agg #[.int .i64 5, .int .i64 n, .string s, .slice none 0 0, .slice none 0 0, .slice none 0 0]] (grow (redrawn w3 d) os) fun e w'' => e = .returned (.int .i64 20) ∧ ∃ p : Regrown, w'' = grow (redrawn w3 p.d) p.os := fun d os => Calls.regrown_of (hck2 _)
  clear hck2 HE HOK hO
  go_enter Try.func52, Try.ntmps52
  go_wp2
  refine wp_region_quiet_below (by kernel_rfl) (by kernel_rfl) ?_
  repeat (go_big_quiet_step (exact cV _ _))
  refine wpQuiet_nil ?_
  intro _ hw'
  obtain ⟨⟨dq, osq⟩, hw''⟩ := hw'
  subst hw''
  have hbq := below_regrown w3 dq osq
  obtain ⟨w4, hw4⟩ : ∃ w4, grow (redrawn w3 dq) osq = w4 := ⟨_, rfl⟩
  rw [hw4] at hbq ⊢
  have HB4 := Lib.hid (HB3.out.trans (hbq.mono HB3.out.size))
  clear cV q0 q3 q4 q9 hw4 hbq
  go_wp2
  go_ret2
  exact ⟨by rw [HR.out, Tx.Vn]; rfl, HB4.out⟩
 | true =>
  have HR : Hid (R = some (Tx.datL 5 n s.data.toList)) := by show _ = _; rw [HE.out]; rfl
  have cV : ∀ d os, Calls Try.prog 19 #[.agg #[.int .i64 5, .int .i64 n, .string s, .slice none 0 0, .slice none 0 0, .slice none 0 0]] (grow (redrawn w3 d) os) fun e w'' => e = .returned (.int .i64 0) ∧ ∃ p : Regrown, w'' = grow (redrawn w3 p.d) p.os := fun d os => Calls.regrown_of (hck2 _)
  clear hck2 HE hO
  go_enter Try.func52, Try.ntmps52
  go_wp2
  refine wp_region_quiet_below (by kernel_rfl) (by kernel_rfl) ?_
  repeat (go_big_quiet_step (exact cV _ _))
  refine wpQuiet_nil ?_
  intro _ hw'
  obtain ⟨⟨dq, osq⟩, hw''⟩ := hw'
  subst hw''
  have hbq := below_regrown w3 dq osq
  obtain ⟨w4, hw4⟩ : ∃ w4, grow (redrawn w3 dq) osq = w4 := ⟨_, rfl⟩
  rw [hw4] at hbq ⊢
  have HB4 := Lib.hid (HB3.out.trans (hbq.mono HB3.out.size))
  have hT4 := HT.out.below hbq
  have HT4 := Lib.hid hT4
  obtain ⟨t0, t3, t4, tl⟩ := hT4
  clear cV q0 q3 q4 q9 hw4 hbq tl c0 c3 c4 hk9 hw3
  have HD : Hid (Tx.datL 5 n s.data.toList = s.data.toList) := rfl
  go_wp2
  go_ret2
  exact ⟨by rw [HR.out, HD.out, Tx.Vs]; rfl, HB4.out⟩
end Go.Proofs.Ytcopdfihaheplaa
