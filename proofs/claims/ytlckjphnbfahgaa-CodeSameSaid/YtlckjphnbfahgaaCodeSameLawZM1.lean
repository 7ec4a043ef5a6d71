/-
  Several texts of this proof in one: CdAwakeM, CdRM2, CdFewS, CdEqI, CdEqS.
-/
import Derived.Test.YtlckjphnbfahgaaCdModel
import Derived.Test.YtlckjphnbfahgaaCdAt
import Derived.Test.YtlckjphnbfahgaaFixText
import Derived.Test.YtlckjphnbfahgaaDtCheck
import Derived.Test.YtlckjphnbfahgaaDtSingleK
import Derived.Lib.QuietBelow
import Derived.Lib.AppendStr
import Derived.Lib.UnsafeStr
import Derived.Test.YtlckjphnbfahgaaCdBytes
import Derived.Laws.BytesArg
import Derived.Test.YtlckjphnbfahgaaCdCheck
import Derived.Test.YtlckjphnbfahgaaDtEq
import Derived.Test.YtlckjphnbfahgaaDtAll
import Derived.Test.YtlckjphnbfahgaaDtMade
import Derived.Test.YtlckjphnbfahgaaCdCheckP
import Derived.Test.YtlckjphnbfahgaaCdOper
import Derived.Deep.Cut
import Derived.Test.YtlckjphnbfahgaaTbSymR
import Derived.Test.YtlckjphnbfahgaaCdRM1
import Derived.Deep.RegionHeld3
import Derived.Deep.QuietTactic
import Derived.BigQuiet
import Derived.Test.YtlckjphnbfahgaaCdOpen
import Derived.Test.YtlckjphnbfahgaaCdIndex
namespace Go.Proofs.Ytlckjphnbfahgaa
namespace Cd
def fiveD : Dt.D := .mk 1 5 ⟨#[]⟩ [] [] []
def fiveC (m : Int) : Code := ⟨0, 0, 0, m, [⟨1, 0, 0⟩, ⟨15, 0, 0⟩]⟩
def five (m : Int) : Prog := ⟨[fiveC m], [fiveD], []⟩
theorem five_wf (m : Int) (h : I64 m) : PWf (five m) := by
  refine ⟨(by show (1 : Nat) ≤ _; omega), (by show (1 : Nat) ≤ _; omega), (by show (0 : Nat) ≤ _; omega), ?_, fun s hs => (by cases hs), fun c hc => ?_⟩
  · refine ⟨⟨by decide, by decide, by decide, by decide, by decide, trivial, trivial⟩, trivial⟩
  · rw [five, List.mem_singleton] at hc
    subst hc
    refine ⟨(by show (-9223372036854775808 : Int) ≤ 0 ∧ (0 : Int) ≤ 9223372036854775807; omega), (by show (-9223372036854775808 : Int) ≤ 0 ∧ (0 : Int) ≤ 9223372036854775807; omega), (by show (-9223372036854775808 : Int) ≤ 0 ∧ (0 : Int) ≤ 9223372036854775807; omega), h, (by show (2 : Nat) ≤ _; omega), fun x hx => ?_⟩
    have h2 : x = ⟨1, 0, 0⟩ ∨ x = ⟨15, 0, 0⟩ := by simpa [fiveC] using hx
    rcases h2 with rfl | rfl
    · unfold I64; exact ⟨⟨by decide, by decide⟩, ⟨by decide, by decide⟩, ⟨by decide, by decide⟩⟩
    · unfold I64; exact ⟨⟨by decide, by decide⟩, ⟨by decide, by decide⟩, ⟨by decide, by decide⟩⟩
theorem five_plain : plainD fiveD = true := by kernel_rfl
theorem five_check : checkP (five 1) = 0 := by kernel_rfl
theorem five_check2 : checkP (five 2) = 90 := by kernel_rfl
theorem five_flow : flowW (fiveC 1).ins 0 (start 2) 0 = some ([0, 1], 1) := by kernel_rfl
end Cd
end Go.Proofs.Ytlckjphnbfahgaa
namespace Go.Proofs.Ytlckjphnbfahgaa
open Go.RowKit Go.Sort
attribute [local go_sem] Oper.semAt_some
namespace T5
/-- a word that lies in a box -/
structure TokAt (w : World) (b : Nat) (k n : Int) (s : ByteArray) : Prop where
  c0 : w.cell? ⟨b, 0, none⟩ = some (.int .i64 k)
  c3 : w.cell? ⟨b, 3, none⟩ = some (.int .i64 n)
  c4 : w.cell? ⟨b, 4, none⟩ = some (.string s)
  lt : b < w.heap.size
theorem TokAt.below {w w' : World} {b : Nat} {k n : Int} {s : ByteArray} (h : TokAt w b k n s) (hb : Below w.heap.size w w') : TokAt w' b k n s :=
  ⟨(hb.cell (p := ⟨b, 0, none⟩) h.lt).trans h.c0, (hb.cell (p := ⟨b, 3, none⟩) h.lt).trans h.c3, (hb.cell (p := ⟨b, 4, none⟩) h.lt).trans h.c4, Nat.lt_of_lt_of_le h.lt hb.size⟩
theorem bel3b (w : World) (a b c : Obj) : Below w.heap.size w (((w.alloc a).alloc b).alloc c) := ((((Below.refl _ _).alloc (Nat.le_refl _) a).alloc (by rw [World.size_alloc]; omega) b)).alloc (by rw [World.size_alloc, World.size_alloc]; omega) c
theorem bel2 (w : World) (a b : Obj) : Below w.heap.size w ((w.alloc a).alloc b) := ((Below.refl _ _).alloc (Nat.le_refl _) a).alloc (by rw [World.size_alloc]; omega) b
theorem start (w : World) (k a z n : Int) (s : ByteArray) : ∃ w3, ((w.alloc (.cells #[.int .i64 k, .int .i64 a, .int .i64 z, .int .i64 n, .string s] 118)).alloc (.cells #[.int .i64 0, .int .i64 0, .int .i64 0, .int .i64 0, .int .i64 0, .int .i64 0, .int .i64 0, .int .i64 0, .int .i64 0, .int .i64 1, .int .i64 2, .int .i64 3, .int .i64 4, .int .i64 5] 133)).alloc
    (.cells #[.string ⟨#[]⟩, .string ⟨#[40]⟩, .string ⟨#[41]⟩, .string ⟨#[35, 40]⟩, .string ⟨#[39]⟩, .string ⟨#[96]⟩, .string ⟨#[44]⟩, .string ⟨#[44, 64]⟩, .string ⟨#[46]⟩] 134) = w3 ∧
    TokAt w3 w.heap.size k n s ∧ Below w.heap.size w w3 ∧ w3.cell? ⟨w.heap.size + 1, 9, none⟩ = some (.int .i64 1) := by
  refine ⟨_, rfl, ?_, bel3b _ _ _ _, ?_⟩
  · obtain ⟨X, hX⟩ : ∃ X, w.alloc (.cells #[.int .i64 k, .int .i64 a, .int .i64 z, .int .i64 n, .string s] 118) = X := ⟨_, rfl⟩
    have hc := fun i v hv => Cd.cells_new w [.int .i64 k, .int .i64 a, .int .i64 z, .int .i64 n, .string s] _ hX i v hv
    have hT : TokAt X w.heap.size k n s := ⟨hc 0 _ rfl, hc 3 _ rfl, hc 4 _ rfl, by rw [← hX, World.size_alloc]; omega⟩
    rw [hX]
    exact hT.below (bel2 _ _ _)
  · obtain ⟨X, hX⟩ : ∃ X, w.alloc (.cells #[.int .i64 k, .int .i64 a, .int .i64 z, .int .i64 n, .string s] 118) = X := ⟨_, rfl⟩
    have hs : X.heap.size = w.heap.size + 1 := by rw [← hX, World.size_alloc]
    rw [hX]
    obtain ⟨Y, hY⟩ : ∃ Y, X.alloc (.cells #[.int .i64 0, .int .i64 0, .int .i64 0, .int .i64 0, .int .i64 0, .int .i64 0, .int .i64 0, .int .i64 0, .int .i64 0, .int .i64 1, .int .i64 2, .int .i64 3, .int .i64 4, .int .i64 5] 133) = Y := ⟨_, rfl⟩
    have hc := Cd.cells_new X [.int .i64 0, .int .i64 0, .int .i64 0, .int .i64 0, .int .i64 0, .int .i64 0, .int .i64 0, .int .i64 0, .int .i64 0, .int .i64 1, .int .i64 2, .int .i64 3, .int .i64 4, .int .i64 5] _ hY 9 _ rfl
    rw [hs] at hc
    rw [hY]
    exact (((Below.refl Y.heap.size Y).alloc (Nat.le_refl _) _).cell (p := ⟨w.heap.size + 1, 9, none⟩) (by rw [← hY, World.size_alloc]; show w.heap.size + 1 < _; omega)).trans hc
end T5
set_option maxRecDepth 100000 in
set_option maxHeartbeats 8000000 in
theorem text5_any (w : World) :
    Calls Try.prog 84 #[.agg #[.int .i64 9, .int .i64 0, .int .i64 0, .int .i64 5, .string ⟨#[]⟩]] w fun e w' => e = .returned (.tuple #[.string ⟨#[53]⟩, .int .i64 0]) ∧ Below w.heap.size w w' := by
  have hck : ∀ w, Calls Try.prog 52 #[.agg #[.int .i64 1, .int .i64 5, .string ⟨#[]⟩, .slice none 0 0, .slice none 0 0, .slice none 0 0]] w fun e w' => e = .returned (.int .i64 0) ∧ Below w.heap.size w w' := fun w => by
    have h := dCheck_any (F := fun _ => True) Cd.fiveD (.slice none 0 0) (.slice none 0 0) (.slice none 0 0) w (Cd.five_wf 1 ⟨by decide, by decide⟩).wk.1 ((Dt.rep_iff _ _ _ _ _ _).2 ⟨⟨none, 0, rfl, Nat.le_refl _, fun h => absurd rfl h⟩, ⟨none, 0, rfl, Nat.le_refl _, fun h => absurd rfl h⟩, ⟨none, 0, rfl, Nat.le_refl _, fun h => absurd rfl h⟩⟩)
    rw [show Dt.check Cd.fiveD = 0 by kernel_rfl] at h
    exact h
  obtain ⟨w3, hw3, hT, hb3, hk9⟩ := T5.start w 9 0 0 5 ⟨#[]⟩
  have HT := Lib.hid hT
  have HB3 := Lib.hid hb3
  obtain ⟨c0, c3, c4, cl⟩ := hT
  have q0 := cell_regrown c0
  have q3 := cell_regrown c3
  have q4 := cell_regrown c4
  have q9 := cell_regrown hk9
  clear cl hb3
  have cV : ∀ d os, Calls Try.prog 52 #[.agg #[.int .i64 1, .int .i64 5, .string ⟨#[]⟩, .slice none 0 0, .slice none 0 0, .slice none 0 0]] (grow (redrawn w3 d) os) fun e w'' => e = .returned (.int .i64 0) ∧ ∃ p : Regrown, w'' = grow (redrawn w3 p.d) p.os := fun d os => Calls.regrown_of (hck _)
  clear hck
  go_enter Try.func84, Try.ntmps84
  go_wp2
  refine wp_region_quiet_below (by kernel_rfl) (by kernel_rfl) ?_
  repeat (go_big_quiet_step (exact cV _ _))
  refine wpQuiet_nil ?_
  intro _ hw'
  obtain ⟨⟨dq, osq⟩, hw''⟩ := hw'
  subst hw''
  have hbq := below_regrown w3 dq osq
  obtain ⟨w4, hw4⟩ : ∃ w4, grow (redrawn w3 dq) osq = w4 := ⟨_, rfl⟩
  rw [hw4] at hbq ⊢
  have HB4 := Lib.hid (HB3.out.trans (hbq.mono HB3.out.size))
  have hT4 := HT.out.below hbq
  obtain ⟨t0, t3, t4, tl⟩ := hT4
  clear cV q0 q3 q4 q9 hw4 hbq tl c0 c3 c4 hk9 hw3
  have hF : Fx.isF 5 = true := by kernel_rfl
  have HF := Lib.hid hF
  have HD : Hid (Fx.textL 5 = [53]) := by show _ = _; kernel_rfl
  clear hF
  go_wp2_with (go_at_call 91; refine (Text_ok 5 _ HF.out).mono ?_; rintro e w5 ⟨rfl, hb5⟩)
  go_ret2
  exact ⟨by rw [HD.out]; rfl, HB4.out.trans (hb5.mono HB4.out.size)⟩
end Go.Proofs.Ytlckjphnbfahgaa
namespace Go.Proofs.Ytlckjphnbfahgaa
open Go.RowKit
attribute [local go_sem] Oper.semAt_some
set_option maxRecDepth 100000 in
set_option maxHeartbeats 4000000 in
theorem word5_any (B : Nat) (w : World) (hB : w.heap[B]? = some (.cells #[.slice none 0 0] 105 (0, 0))) :
    Calls Try.prog 76 #[.pointer (some ⟨B, 0, none⟩), .agg #[.int .i64 9, .int .i64 0, .int .i64 0, .int .i64 5, .string ⟨#[]⟩]] w fun e w' => e = .returned (.tuple #[]) ∧ (∃ a c, w'.cell? ⟨B, 0, none⟩ = some (.slice a 1 c) ∧ Cd.RowB w.heap.size w' a c [53]) ∧ Keep (fun k => k = B) w w' := by
  obtain ⟨i0, hi, hz0, hz1, hz2⟩ := info_parts Cd.infoB
  obtain ⟨w1, hw1⟩ : ∃ w1, w.alloc (.cells #[.int .i64 9, .int .i64 0, .int .i64 0, .int .i64 5, .string ⟨#[]⟩] 118) = w1 := ⟨_, rfl⟩
  obtain ⟨hb1, hs1, hbt⟩ := Cd.boxC hw1
  obtain ⟨q0, q1, q2, q3, q4⟩ := hbt w1 (Below.refl _ _)
  have hBl : B < w.heap.size := (Array.getElem?_eq_some_iff.1 hB).1
  have hB1 := (hb1.block B hBl).trans hB
  have ht := text5_any w1
  have HB1 := Lib.hid hb1
  clear hb1 hbt
  go_enter Try.func76, Try.ntmps76
  go_wp2_with (go_at_call 84; refine ht.mono ?_; clear ht hw1 q0 q1 q2 q3 q4; rintro e w2 ⟨rfl, hb2⟩; refine Hid.out ?_)
  refine Lib.hid ?_
  have hB2 := (hb2.block B (by omega)).trans hB1
  have c0 : w2.cell? ⟨B, 0, none⟩ = some (.slice none 0 0) := by rw [Lib.cell_of_heap hB2]; rfl
  have HB2 : Hid (Below w.heap.size w w2) := HB1.out.trans (hb2.mono (by omega))
  have hs2 := HB2.out.size
  have hown : w2.ownsRow w.heap.size 5 1 (.slice none 0 0) 0 [] := World.ownsRow_nil _ _ _ _
  clear hb2
  go_wp2_with (at_builtin; refine Lib.wpList_append_own_string _ rfl _ _ 49 9 rfl w.heap.size 5 i0 Try.underlying49 Try.underlying9 hi hz0 hz1 hz2 _ _ _ rfl hown ⟨#[53]⟩ rfl (by decide) (by decide) hs2 ?_)
  intro v' w3 hown' hgrow _
  obtain ⟨a3, c3, rfl⟩ := Dt.row_form hown'
  have hB3 := (hgrow.block B (by omega) (by intro e; cases e)).trans hB2
  have d0 : w3.cell? ⟨B, 0, none⟩ = some (.slice none 0 0) := by rw [Lib.cell_of_heap hB3]; rfl
  have f0 : w3.frozen? ⟨B, 0, none⟩ = false := Lib.frozen_of_heap hB3 0
  have hlt := fun k e => (hown'.lt k e).1
  have HR : Hid (Cd.RowB w.heap.size (w3.setCell ⟨B, 0, none⟩ (.slice a3 1 c3)) a3 c3 [53]) := by
    show World.ownsRow _ _ _ _ _ _ _
    exact Keep.own (S := fun k => k = B) hown' ((Keep.refl (fun k => k = B) w3).setCell rfl 0 _) (fun k hk => hk ▸ hBl)
  have HC : Hid ((w3.setCell ⟨B, 0, none⟩ (.slice a3 1 c3)).cell? ⟨B, 0, none⟩ = some (.slice a3 1 c3)) := by
    show _ = _
    exact World.cell?_setCell_same _ _ _ d0
  have HK : Hid (Keep (fun k => k = B) w (w3.setCell ⟨B, 0, none⟩ (.slice a3 1 c3))) := by
    have h23 : Below w.heap.size w w3 := HB2.out.grown hgrow hs2 (fun k e => by cases e)
    exact ((Keep.refl (fun k => k = B) w).below h23).setCell rfl 0 _
  clear hown' hgrow hB hB1 hB2 hB3 hown
  go_wp2
  go_end0
  exact ⟨rfl, ⟨a3, c3, HC.out, HR.out⟩, HK.out⟩
theorem boxD {w w1 : World} {x0 x1 x2 x3 x4 x5 : Value} {t : TypeId} (h : w.alloc (.cells #[x0, x1, x2, x3, x4, x5] t) = w1) : Below w.heap.size w w1 ∧ w1.heap.size = w.heap.size + 1 ∧ w1.cell? ⟨w.heap.size, 0, none⟩ = some x0 ∧ w1.cell? ⟨w.heap.size, 1, none⟩ = some x1 ∧ w1.cell? ⟨w.heap.size, 2, none⟩ = some x2 ∧ w1.cell? ⟨w.heap.size, 3, none⟩ = some x3 ∧ w1.cell? ⟨w.heap.size, 4, none⟩ = some x4 ∧ w1.cell? ⟨w.heap.size, 5, none⟩ = some x5 := by
  obtain ⟨hb, hs⟩ := Cd.below_new (Below.refl _ w) h (Nat.le_refl _)
  have hc := fun i v hv => Cd.cells_new w [x0, x1, x2, x3, x4, x5] t h i v hv
  exact ⟨hb, hs, hc 0 _ rfl, hc 1 _ rfl, hc 2 _ rfl, hc 3 _ rfl, hc 4 _ rfl, hc 5 _ rfl⟩
set_option maxRecDepth 100000 in
theorem quoted5_any (am al at_ : Option Addr) (cm cl ct : Nat) (w : World) :
    Calls Try.prog 75 #[.agg #[.int .i64 1, .int .i64 5, .string ⟨#[]⟩, .slice am 0 cm, .slice al 0 cl, .slice at_ 0 ct]] w fun e w' => e = .returned (.int .i64 0) ∧ Below w.heap.size w w' := by
  obtain ⟨w1, hw1⟩ : ∃ w1, w.alloc (.cells #[.int .i64 1, .int .i64 5, .string ⟨#[]⟩, .slice am 0 cm, .slice al 0 cl, .slice at_ 0 ct] 55) = w1 := ⟨_, rfl⟩
  obtain ⟨hb1, -, q0, q1, q2, q3, q4, q5⟩ := boxD hw1
  have HB1 := Lib.hid hb1
  clear hb1
  go_enter Try.func75, Try.ntmps75
  go_wp2
  go_ret
  exact ⟨rfl, HB1.out⟩
set_option maxRecDepth 100000 in
set_option maxHeartbeats 4000000 in
theorem put5_any (am al at_ : Option Addr) (cm cl ct : Nat) (B : Nat) (w : World) (hB : w.heap[B]? = some (.cells #[.slice none 0 0] 105 (0, 0))) :
    Calls Try.prog 67 #[.pointer (some ⟨B, 0, none⟩), .agg #[.int .i64 1, .int .i64 5, .string ⟨#[]⟩, .slice am 0 cm, .slice al 0 cl, .slice at_ 0 ct]] w fun e w' => e = .returned (.tuple #[]) ∧ (∃ a c, w'.cell? ⟨B, 0, none⟩ = some (.slice a 1 c) ∧ Cd.RowB w.heap.size w' a c [53]) ∧ Keep (fun k => k = B) w w' := by
  obtain ⟨w1, hw1⟩ : ∃ w1, w.alloc (.cells #[.int .i64 1, .int .i64 5, .string ⟨#[]⟩, .slice am 0 cm, .slice al 0 cl, .slice at_ 0 ct] 55) = w1 := ⟨_, rfl⟩
  obtain ⟨hb1, hs1, q0, q1, q2, q3, q4, q5⟩ := boxD hw1
  have hBl : B < w.heap.size := (Array.getElem?_eq_some_iff.1 hB).1
  have hB1 := (hb1.block B hBl).trans hB
  have hq := quoted5_any am al at_ cm cl ct w1
  have HB1 := Lib.hid hb1
  have HBB := Lib.hid hB1
  have HQ : Hid (∀ W, Below w1.heap.size w1 W → W.cell? ⟨w.heap.size, 0, none⟩ = some (.int .i64 1) ∧ W.cell? ⟨w.heap.size, 1, none⟩ = some (.int .i64 5)) := fun W hW => ⟨(hW.cell (p := ⟨w.heap.size, 0, none⟩) (by show w.heap.size < _; omega)).trans q0, (hW.cell (p := ⟨w.heap.size, 1, none⟩) (by show w.heap.size < _; omega)).trans q1⟩
  have HS := Lib.hid (show B < w1.heap.size by omega)
  clear hb1 hB hB1 hBl hs1
  go_enter Try.func67, Try.ntmps67
  go_wp2_with (first | (go_at_call 75; refine hq.mono ?_; clear hq hw1 q0 q1 q2 q3 q4 q5; rintro e w2 ⟨rfl, hb2⟩; obtain ⟨q0, q1⟩ := HQ.out w2 hb2; have hwd := word5_any B w2 ((hb2.block B HS.out).trans HBB.out); have HB2 := Lib.hid (HB1.out.trans (hb2.mono HB1.out.size)); clear hb2) | (go_at_call 76; refine hwd.mono ?_; clear hwd q0 q1; rintro e w3 ⟨rfl, ⟨a3, c3, hc3, hr3⟩, hk3⟩; have HC3 := Lib.hid hc3; have HR3 := Lib.hid hr3; have HK3 := Lib.hid hk3; clear hc3 hr3 hk3))
  go_end0
  refine ⟨rfl, ⟨a3, c3, HC3.out, ?_⟩, ((Keep.refl (fun k => k = B) w).below HB2.out).trans HK3.out⟩
  obtain ⟨h1, h2⟩ := HR3.out
  refine ⟨h1, h2.elim .inl (fun h3 => ?_)⟩
  obtain ⟨g, cap, cur, e1, e2, e3⟩ := h3
  exact .inr ⟨g, cap, cur, e1, Nat.le_trans HB2.out.size e2, e3⟩
set_option maxRecDepth 100000 in
theorem conv_bytes {w : World} {base : Nat} {a : Option Addr} {c : Nat} (l : List UInt8) (h : Cd.RowB base w a c l) :
    (convert 49 9 (.slice a l.length c)).run Try.prog w = .ok (.string ⟨l.toArray⟩) w := by
  have h0 : w.ownsRow base 5 1 (.slice a l.length c) l.length (Lib.byteCells l) := h
  obtain ⟨_, h1⟩ := h
  rcases h1 with ⟨e, hn⟩ | ⟨g, cap, cur, e, _, _, _, _, _, _⟩
  · have : l = [] := List.eq_nil_of_length_eq_zero hn
    subst this
    cases e
    have := run_convert_bytes_nil (P := Try.prog) w 49 5 Try.underlying49 Try.underlying5 0 0 9 Try.underlying9
    exact this
  · cases e
    have hr := run_convert_bytes_arg (P := Try.prog) w 49 5 Try.underlying49 Try.underlying5 g 0 l.length c (l.map fun c => (c.toNat : Int)) (by simp) (fun i hi => by
      rw [Nat.zero_add, h0.cellAt i (by omega)]
      simp [Lib.byteCells, List.getD, List.getElem?_eq_getElem hi]) 9 Try.underlying9
    rw [hr]
    congr 2
    unfold strOfNums
    rw [List.map_map]
    congr 2
    conv => rhs; rw [← List.map_id l]
    apply List.map_congr_left
    intro c _
    simp [Function.comp]
set_option maxRecDepth 100000 in
set_option maxHeartbeats 4000000 in
theorem print5_any {F : Nat → Prop} (am al at_ : Option Addr) (cm cl ct : Nat) (w : World) (hR : Dt.Rep F w Cd.fiveD (.slice am 0 cm) (.slice al 0 cl) (.slice at_ 0 ct)) :
    Calls Try.prog 45 #[.agg #[.int .i64 1, .int .i64 5, .string ⟨#[]⟩, .slice am 0 cm, .slice al 0 cl, .slice at_ 0 ct]] w fun e w' => e = .returned (.tuple #[.string ⟨#[53]⟩, .int .i64 0]) ∧ Below w.heap.size w w' := by
  obtain ⟨w1, hw1⟩ : ∃ w1, w.alloc (.cells #[.int .i64 1, .int .i64 5, .string ⟨#[]⟩, .slice am 0 cm, .slice al 0 cl, .slice at_ 0 ct] 55) = w1 := ⟨_, rfl⟩
  obtain ⟨hb1, hs1, q0, q1, q2, q3, q4, q5⟩ := boxD hw1
  have hck := dCheck_any Cd.fiveD _ _ _ w1 (Cd.five_wf 1 ⟨by decide, by decide⟩).wk.1 (hR.below hb1)
  rw [show Dt.check Cd.fiveD = 0 by kernel_rfl] at hck
  have hck2 : Calls Try.prog 52 #[.agg #[.int .i64 1, .int .i64 5, .string ⟨#[]⟩, .slice am 0 cm, .slice al 0 cl, .slice at_ 0 ct]] w1 fun e w' => e = .returned (.int .i64 0) ∧ Below w1.heap.size w1 w' := hck
  have HQ : Hid (∀ W, Below w1.heap.size w1 W → W.cell? ⟨w.heap.size, 0, none⟩ = some (.int .i64 1) ∧ W.cell? ⟨w.heap.size, 1, none⟩ = some (.int .i64 5) ∧ W.cell? ⟨w.heap.size, 2, none⟩ = some (.string ⟨#[]⟩) ∧ W.cell? ⟨w.heap.size, 3, none⟩ = some (.slice am 0 cm) ∧ W.cell? ⟨w.heap.size, 4, none⟩ = some (.slice al 0 cl) ∧ W.cell? ⟨w.heap.size, 5, none⟩ = some (.slice at_ 0 ct)) := fun W hW =>
    have hl : w.heap.size < w1.heap.size := by omega
    ⟨(hW.cell (p := ⟨w.heap.size, 0, none⟩) hl).trans q0, (hW.cell (p := ⟨w.heap.size, 1, none⟩) hl).trans q1, (hW.cell (p := ⟨w.heap.size, 2, none⟩) hl).trans q2, (hW.cell (p := ⟨w.heap.size, 3, none⟩) hl).trans q3, (hW.cell (p := ⟨w.heap.size, 4, none⟩) hl).trans q4, (hW.cell (p := ⟨w.heap.size, 5, none⟩) hl).trans q5⟩
  have HB1 := Lib.hid hb1
  clear hb1 hck hs1
  go_enter Try.func45, Try.ntmps45
  go_upto_region 4 with (go_at_call 52; refine hck2.mono ?_; clear hck2 hw1 q0 q1 q2 q3 q4 q5; rintro e w2 ⟨rfl, hb2⟩; have HB2 := Lib.hid hb2; clear hb2)
  obtain ⟨w3, hw3⟩ : ∃ w3, w2.alloc (.cells #[.slice none 0 0] 105) = w3 := ⟨_, rfl⟩
  obtain ⟨hb3, hs3⟩ := Cd.below_new (Below.refl _ w2) hw3 (Nat.le_refl _)
  have hB3 : w3.heap[w2.heap.size]? = some (.cells #[.slice none 0 0] 105 (0, 0)) := by rw [← hw3]; exact heap_alloc_new w2 _
  have hpt := put5_any am al at_ cm cl ct _ w3 hB3
  obtain ⟨q0, q1, q2, q3, q4, q5⟩ := HQ.out w3 (HB2.out.trans (hb3.mono HB2.out.size))
  have HB3 : Hid (Below w.heap.size w w3) := HB1.out.trans ((HB2.out.trans (hb3.mono HB2.out.size)).mono HB1.out.size)
  have HS2 : Hid (w.heap.size ≤ w2.heap.size) := Nat.le_trans HB1.out.size HB2.out.size
  clear hb3 hB3 hs3
  go_upto_region 8 with (go_at_call 67; refine hpt.mono ?_; clear hpt hw3 q0 q1 q2 q3 q4 q5; rintro e w4 ⟨rfl, ⟨a4, c4, c0, hr4⟩, hk4⟩; have HR4 := Lib.hid hr4; have HB4 : Hid (Below w.heap.size w w4) := HB3.out.trans (hk4.to_below (fun k hk => by have := HS2.out; omega) HB3.out.size); clear hr4 hk4)
  have hcv := conv_bytes [53] HR4.out
  have hcv2 : (convert 49 9 (.slice a4 1 c4)).run Try.prog w4 = .ok (.string ⟨#[53]⟩) w4 := hcv
  clear hcv
  go_wp2
  go_ret2
  exact ⟨rfl, HB4.out⟩
theorem Cd.five_text : Cd.HasText (fun _ => ⟨#[53]⟩) Cd.fiveD := by
  refine ⟨by decide, fun F vm vl vt w h => ?_⟩
  obtain ⟨⟨am, cm, e1, h1⟩, ⟨al, cl, e2, h2⟩, ⟨at_, ct, e3, h3⟩⟩ := (Dt.rep_iff _ _ _ _ _ _).1 h
  have f1 : vm = .slice am 0 cm := e1
  have f2 : vl = .slice al 0 cl := e2
  have f3 : vt = .slice at_ 0 ct := e3
  subst f1 f2 f3
  exact print5_any am al at_ cm cl ct w h
end Go.Proofs.Ytlckjphnbfahgaa
namespace Go.Proofs.Ytlckjphnbfahgaa
open Go.RowKit
attribute [local go_sem] Oper.semAt_some
namespace Cd
/-- the blocks of five -/
structure FiveAt (w : World) (A B C : Nat) (m : Int) : Prop where
  ha : w.heap[A]? = some (.cells #[.int .i64 1, .int .i64 5, .string ⟨#[]⟩, .slice none 0 0, .slice none 0 0, .slice none 0 0] 55 (0, 0))
  hb : w.heap[B]? = some (.cells #[.int .i64 1, .int .i64 0, .int .i64 0, .int .i64 15, .int .i64 0, .int .i64 0] 41 (0, 0))
  hc : w.heap[C]? = some (.cells #[.int .i64 0, .int .i64 0, .int .i64 0, .int .i64 m, .slice (some ⟨B, 0, none⟩) 2 2] 39 (0, 0))
theorem cellAt {w : World} {b : Nat} {cs : Array Value} {t : TypeId} (h : w.heap[b]? = some (.cells cs t (0, 0))) (i : Nat) : w.cell? ⟨b, i, none⟩ = cs[i]? := by
  rw [Lib.cell_of_heap h]
theorem lt_of {w : World} {b : Nat} {o : Obj} (h : w.heap[b]? = some o) : b < w.heap.size := (Array.getElem?_eq_some_iff.1 h).1
theorem FiveAt.rep {w : World} {A B C : Nat} {m : Int} (h : FiveAt w A B C m) : PRep (fun _ => True) w (five m) (.slice (some ⟨C, 0, none⟩) 1 1) (.slice (some ⟨A, 0, none⟩) 1 1) (.slice none 0 0) := by
  have hA := cellAt h.ha
  have hB := cellAt h.hb
  have hC := cellAt h.hc
  refine ⟨⟨_, _, rfl, Nat.le_refl _, fun _ => ⟨C, 0, rfl, trivial, lt_of h.hc, fun j hj => ?_⟩⟩, ⟨_, _, rfl, Nat.le_refl _, fun _ => ⟨A, 0, rfl, trivial, lt_of h.ha, Dt.Reps.of fun j hj => ?_⟩⟩, ⟨_, _, rfl, Nat.le_refl _, fun h => absurd rfl h⟩⟩
  · obtain rfl : j = 0 := by simpa [five] using hj
    refine ⟨hC 0, hC 1, hC 2, hC 3, _, hC 4, ⟨_, _, rfl, Nat.le_refl _, fun _ => ⟨B, 0, rfl, trivial, lt_of h.hb, fun j hj => ?_⟩⟩⟩
    have hj2 : j < 2 := hj
    match j, hj2 with
    | 0, _ => exact ⟨hB 0, hB 1, hB 2⟩
    | 1, _ => exact ⟨hB 3, hB 4, hB 5⟩
  · obtain rfl : j = 0 := by simpa [five] using hj
    refine ⟨.slice none 0 0, .slice none 0 0, .slice none 0 0, ⟨hA 0, hA 1, hA 2, hA 3, hA 4, hA 5⟩, (Dt.rep_iff _ _ _ _ _ _).2 ⟨⟨none, 0, rfl, Nat.le_refl _, fun h => absurd rfl h⟩, ⟨none, 0, rfl, Nat.le_refl _, fun h => absurd rfl h⟩, ⟨none, 0, rfl, Nat.le_refl _, fun h => absurd rfl h⟩⟩⟩
end Cd
set_option maxRecDepth 100000 in
set_option maxHeartbeats 4000000 in
theorem five_any (w : World) :
    Calls Try.prog 19 #[] w fun e w' => ∃ A B C, e = .returned (.agg #[.slice (some ⟨C, 0, none⟩) 1 1, .slice (some ⟨A, 0, none⟩) 1 1, .slice none 0 0]) ∧ Cd.FiveAt w' A B C 1 ∧ A ≠ C ∧ B ≠ C ∧ w.heap.size ≤ C ∧ Below w.heap.size w w' := by
  obtain ⟨w1, hw1⟩ : ∃ w1, w.alloc (.cells #[.slice none 0 0, .slice none 0 0, .slice none 0 0] 26) = w1 := ⟨_, rfl⟩
  obtain ⟨hb1, hs1, hbp⟩ := Cd.boxP hw1
  obtain ⟨w2, hw2⟩ : ∃ w2, w1.alloc (.cells #[.int .i64 1, .int .i64 5, .string ⟨#[]⟩, .slice none 0 0, .slice none 0 0, .slice none 0 0] 55) = w2 := ⟨_, rfl⟩
  obtain ⟨w3, hw3⟩ : ∃ w3, w2.alloc (.cells #[.int .i64 1, .int .i64 0, .int .i64 0, .int .i64 15, .int .i64 0, .int .i64 0] 41) = w3 := ⟨_, rfl⟩
  obtain ⟨w4, hw4⟩ : ∃ w4, w3.alloc (.cells #[.int .i64 0, .int .i64 0, .int .i64 0, .int .i64 1, .slice (some ⟨w2.heap.size, 0, none⟩) 2 2] 39) = w4 := ⟨_, rfl⟩
  obtain ⟨hb2, hs2⟩ := Cd.below_new (Below.refl _ w1) hw2 (Nat.le_refl _)
  obtain ⟨hb3, hs3⟩ := Cd.below_new (Below.refl _ w2) hw3 (Nat.le_refl _)
  obtain ⟨hb4, hs4⟩ := Cd.below_new (Below.refl _ w3) hw4 (Nat.le_refl _)
  have hR1 : w1.heap[w.heap.size]? = some (.cells #[.slice none 0 0, .slice none 0 0, .slice none 0 0] 26 (0, 0)) := by rw [← hw1]; exact heap_alloc_new w _
  have hA2 : w2.heap[w1.heap.size]? = some (.cells #[.int .i64 1, .int .i64 5, .string ⟨#[]⟩, .slice none 0 0, .slice none 0 0, .slice none 0 0] 55 (0, 0)) := by rw [← hw2]; exact heap_alloc_new w1 _
  have hB3 : w3.heap[w2.heap.size]? = some (.cells #[.int .i64 1, .int .i64 0, .int .i64 0, .int .i64 15, .int .i64 0, .int .i64 0] 41 (0, 0)) := by rw [← hw3]; exact heap_alloc_new w2 _
  have hC4 : w4.heap[w3.heap.size]? = some (.cells #[.int .i64 0, .int .i64 0, .int .i64 0, .int .i64 1, .slice (some ⟨w2.heap.size, 0, none⟩) 2 2] 39 (0, 0)) := by rw [← hw4]; exact heap_alloc_new w3 _
  have hR4 := (hb4.block _ (by omega)).trans ((hb3.block _ (by omega)).trans ((hb2.block _ (by omega)).trans hR1))
  have hA4 := (hb4.block _ (by omega)).trans ((hb3.block _ (by omega)).trans hA2)
  have hB4 := (hb4.block _ (by omega)).trans hB3
  have hb14 := hb1.trans ((hb2.trans ((hb3.trans (hb4.mono hb3.size)).mono hb2.size)).mono hb1.size)
  have p0 : w4.cell? ⟨w.heap.size, 0, none⟩ = some (.slice none 0 0) := by rw [Cd.cellAt hR4]; rfl
  have p1 : w4.cell? ⟨w.heap.size, 1, none⟩ = some (.slice none 0 0) := by rw [Cd.cellAt hR4]; rfl
  have p2 : w4.cell? ⟨w.heap.size, 2, none⟩ = some (.slice none 0 0) := by rw [Cd.cellAt hR4]; rfl
  have f0 : w4.frozen? ⟨w.heap.size, 0, none⟩ = false := Lib.frozen_of_heap hR4 0
  have f1 : w4.frozen? ⟨w.heap.size, 1, none⟩ = false := Lib.frozen_of_heap hR4 1
  have f2 : w4.frozen? ⟨w.heap.size, 2, none⟩ = false := Lib.frozen_of_heap hR4 2
  obtain ⟨w5, hw5⟩ : ∃ w5, ((w4.setCell ⟨w.heap.size, 0, none⟩ (.slice (some ⟨w3.heap.size, 0, none⟩) 1 1)).setCell ⟨w.heap.size, 1, none⟩ (.slice (some ⟨w1.heap.size, 0, none⟩) 1 1)).setCell ⟨w.heap.size, 2, none⟩ (.slice none 0 0) = w5 := ⟨_, rfl⟩
  have hk5 : Keep (fun k => k = w.heap.size) w4 w5 := by
    rw [← hw5]
    exact (((Keep.refl (fun k => k = w.heap.size) w4).setCell rfl 0 _).setCell rfl 1 _).setCell rfl 2 _
  have HB5 : Hid (Below w.heap.size w w5) := hb14.trans (hk5.to_below (fun k hk => by omega) hb14.size)
  have HF : Hid (Cd.FiveAt w5 w1.heap.size w2.heap.size w3.heap.size 1) := ⟨(hk5.block _ (by omega) (by omega)).trans hA4, (hk5.block _ (by omega) (by omega)).trans hB4, (hk5.block _ (by omega) (by omega)).trans hC4⟩
  have HS : Hid (w1.heap.size ≠ w3.heap.size ∧ w2.heap.size ≠ w3.heap.size ∧ w.heap.size ≤ w3.heap.size) := ⟨by omega, by omega, by omega⟩
  have z0 : w5.cell? ⟨w.heap.size, 0, none⟩ = some (.slice (some ⟨w3.heap.size, 0, none⟩) 1 1) := by
    rw [← hw5]
    rw [World.cell?_setCell_other _ _ _ _ (by intro e; cases e), World.cell?_setCell_other _ _ _ _ (by intro e; cases e)]
    exact World.cell?_setCell_same _ _ _ p0
  have z1 : w5.cell? ⟨w.heap.size, 1, none⟩ = some (.slice (some ⟨w1.heap.size, 0, none⟩) 1 1) := by
    rw [← hw5]
    rw [World.cell?_setCell_other _ _ _ _ (by intro e; cases e)]
    exact World.cell?_setCell_same _ _ _ ((World.cell?_setCell_other _ _ _ _ (by intro e; cases e)).trans p1)
  have z2 : w5.cell? ⟨w.heap.size, 2, none⟩ = some (.slice none 0 0) := by
    rw [← hw5]
    exact World.cell?_setCell_same _ _ _ ((World.cell?_setCell_other _ _ _ _ (by intro e; cases e)).trans ((World.cell?_setCell_other _ _ _ _ (by intro e; cases e)).trans p2))
  obtain ⟨A, hA⟩ : ∃ A, w1.heap.size = A := ⟨_, rfl⟩
  obtain ⟨B, hB⟩ : ∃ B, w2.heap.size = B := ⟨_, rfl⟩
  obtain ⟨C, hC⟩ : ∃ C, w3.heap.size = C := ⟨_, rfl⟩
  rw [hA, hB, hC] at HF
  rw [hA, hB, hC] at HS
  rw [hB] at hw4
  rw [hC, hA] at hw5
  rw [hC] at z0
  rw [hA] at z1
  clear hb1 hs1 hbp hb2 hs2 hb3 hs3 hb4 hs4 hR1 hA2 hB3 hC4 hR4 hA4 hB4 hb14 hk5
  go_enter Try.func19, Try.ntmps19
  go_wp2
  exact bodyPost_ret (v := .agg #[.slice (some ⟨C, 0, none⟩) 1 1, .slice (some ⟨A, 0, none⟩) 1 1, .slice none 0 0]) (by simp [results, Try.results19, go_sem, z0, z1, z2]) rfl ⟨A, B, C, rfl, HF.out, HS.out.1, HS.out.2.1, HS.out.2.2, HB5.out⟩
end Go.Proofs.Ytlckjphnbfahgaa
namespace Go.Proofs.Ytlckjphnbfahgaa
open Go.RowKit
attribute [local go_sem] Oper.semAt_some
namespace Cd
/-- what Depths answers -/
def DepthsPost (p : Prog) (k : Int) (w : World) (e : Ending) (w' : World) : Prop :=
  if checkP p ≠ 0 then e = .returned (.tuple #[.slice none 0 0, .int .i64 (checkP p)]) ∧ Below w.heap.size w w'
  else if k < 0 ∨ (p.codes.length : Int) ≤ k then e = .returned (.tuple #[.slice none 0 0, .int .i64 6]) ∧ Below w.heap.size w w'
  else ∃ (c : Code) (fin : List Int) (g : Nat), p.codes[k.toNat]? = some c ∧ flowW c.ins 0 (start c.ins.length) 0 = some (fin, c.max) ∧ fin.length = c.ins.length ∧ e = .returned (.tuple #[.slice (some ⟨g, 0, none⟩) fin.length fin.length, .int .i64 0]) ∧ w'.ownsRow w.heap.size 3 1 (.slice (some ⟨g, 0, none⟩) fin.length fin.length) fin.length (fin.map (Value.int .i64)) ∧ Below w.heap.size w w'
end Cd
set_option maxRecDepth 100000 in
set_option maxHeartbeats 8000000 in
theorem depths_any {F : Nat → Prop} (p : Cd.Prog) (k : Int) (vc vk vn : Value) (w : World) (hp : Cd.PRep F w p vc vk vn) (hw : Cd.PWf p) :
    Calls Try.prog 9 #[.agg #[vc, vk, vn], .int .i64 k] w (Cd.DepthsPost p k w) := by
  obtain ⟨a1, c1, a2, c2, a3, c3, rfl, rfl, rfl⟩ := hp.forms
  obtain ⟨w1, hw1⟩ : ∃ w1, w.alloc (.cells #[.slice a1 p.codes.length c1, .slice a2 p.consts.length c2, .slice a3 p.names.length c3] 26) = w1 := ⟨_, rfl⟩
  obtain ⟨hb1, hs1, hbp⟩ := Cd.boxP hw1
  obtain ⟨p0, p1, p2⟩ := hbp w1 (Below.refl _ _)
  have hck := check_any p _ _ _ w1 (hp.below hb1) hw
  have HP := Lib.hid hp
  have HB1 := Lib.hid hb1
  have HBP := Lib.hid hbp
  obtain ⟨R, hR⟩ : ∃ R, Cd.checkP p = R := ⟨_, rfl⟩
  have hD : Cd.DepthsPost p k w = fun e w' => Cd.DepthsPost p k w e w' := rfl
  unfold Cd.DepthsPost
  rw [hR] at hck ⊢
  by_cases h0 : R = 0
  case neg =>
    have h0' : (R != 0) = true := bne_iff_ne.2 h0
    simp only [if_pos (show R ≠ 0 from h0)]
    clear hp hw hb1 hbp hR h0 hD
    go_enter Try.func9, Try.ntmps9
    go_wp2_with (go_at_call 11; refine hck.mono ?_; clear hck hw1 p0 p1 p2; rintro e w2 ⟨rfl, hb2⟩; have HB2 := Lib.hid hb2; clear hb2)
    go_ret2
    exact ⟨rfl, HB1.out.trans (HB2.out.mono HB1.out.size)⟩
  simp only [if_neg (show ¬ R ≠ 0 from fun h => h h0)]
  subst h0
  by_cases h1 : k < 0 ∨ (p.codes.length : Int) ≤ k
  · simp only [if_pos h1]
    clear hD hR
    by_cases h2 : k < 0
    · have h2' : decide (k < 0) = true := decide_eq_true h2
      clear hp hw hb1 hbp h1
      go_enter Try.func9, Try.ntmps9
      go_wp2_with (go_at_call 11; refine hck.mono ?_; clear hck hw1 p0 p1 p2; rintro e w2 ⟨rfl, hb2⟩; have HB2 := Lib.hid hb2; obtain ⟨p0, p1, p2⟩ := HBP.out w2 hb2; clear hb2)
      go_ret2
      exact ⟨rfl, HB1.out.trans (HB2.out.mono HB1.out.size)⟩
    · have h2' : decide (k < 0) = false := decide_eq_false h2
      have h3' : decide ((p.codes.length : Int) ≤ k) = true := decide_eq_true (by omega)
      clear hp hw hb1 hbp h1 h2
      go_enter Try.func9, Try.ntmps9
      go_wp2_with (go_at_call 11; refine hck.mono ?_; clear hck hw1 p0 p1 p2; rintro e w2 ⟨rfl, hb2⟩; have HB2 := Lib.hid hb2; obtain ⟨p0, p1, p2⟩ := HBP.out w2 hb2; clear hb2)
      go_ret2
      exact ⟨rfl, HB1.out.trans (HB2.out.mono HB1.out.size)⟩
  · simp only [if_neg h1]
    obtain ⟨j, rfl⟩ : ∃ j : Nat, k = (j : Int) := ⟨k.toNat, by omega⟩
    have hj : j < p.codes.length := by omega
    have hji : (j : Int) < (p.codes.length : Int) := by omega
    have h3' : decide ((p.codes.length : Int) ≤ (j : Int)) = false := decide_eq_false (by omega)
    have hj0 : (0 : Int) ≤ (j : Int) := by omega
    obtain ⟨-, -, hg⟩ := Cd.check_codes hR
    have hgd := Cd.good_good (hg p.codes[j] (List.getElem_mem hj))
    obtain ⟨fin, hfin⟩ := hgd.flow
    obtain ⟨b, o, rfl, -, hbl, -, -, -, -, vi, x4, hi⟩ := Cd.code_at hp.codes j hj
    obtain ⟨ai, ci, rfl⟩ := hi.form
    have hpos : ∀ x ∈ p.codes[j].ins, (Cd.op x.o).a = 5 → 0 ≤ x.a := fun x hx e => by
      obtain ⟨i, hi2, rfl⟩ := List.getElem_of_mem hx
      have h4 := (hgd.ins i hi2).lo
      rw [e] at h4
      have h5 : (i : Int) + 1 ≤ p.codes[j].ins[i].a := h4
      omega
    have hl1 : 1 ≤ p.codes[j].ins.length := List.length_pos_iff.2 hgd.ne
    have hl2 := hgd.len
    obtain ⟨c, hc⟩ : ∃ c, c = p.codes[j] := ⟨_, rfl⟩
    have HCE : Hid (p.codes[j]? = some c) := by show _ = _; rw [hc, List.getElem?_eq_getElem hj]
    rw [← hc] at hfin x4 hi hpos hl1 hl2
    have HI := Lib.hid hi
    have HFIN := Lib.hid hfin
    have HPOS := Lib.hid hpos
    have HL : Hid (1 ≤ c.ins.length ∧ c.ins.length ≤ 4096) := ⟨hl1, hl2⟩
    have HX4 : Hid (∀ W, Below w1.heap.size w1 W → W.cell? ⟨b, o + j * 5 + 4, none⟩ = some (.slice ai c.ins.length ci)) := fun W hW => ((hb1.trans (hW.mono hb1.size)).cell (p := ⟨b, o + j * 5 + 4, none⟩) hbl).trans x4
    clear hp hw hb1 hbp h1 hD hR hg hgd hc hfin x4 hi hpos hl1 hl2 hbl
    go_enter Try.func9, Try.ntmps9
    go_wp2_with (first | (go_at_call 11; refine hck.mono ?_; clear hck hw1 p0 p1 p2; rintro e w2 ⟨rfl, hb2⟩; have HB2 := Lib.hid hb2; obtain ⟨p0, p1, p2⟩ := HBP.out w2 hb2; have x4 := HX4.out w2 hb2; have HB02 : Hid (Below w.heap.size w w2) := HB1.out.trans (hb2.mono HB1.out.size); have hfl := flow_any _ c.ins w2 (HI.out.below HB02.out) HL.out.1 HL.out.2 HPOS.out; rw [HFIN.out] at hfl; unfold Cd.FlowPost at hfl; simp only at hfl; clear hb2) | (go_at_call 22; refine hfl.mono ?_; clear hfl; rintro e w3 ⟨g, rfl, hln, hrow, hb3⟩; have HLN := Lib.hid hln; have HROW := Lib.hid hrow; have HB3 := Lib.hid hb3; clear hln hrow hb3))
    go_ret2
    refine ⟨c, fin, g, ?_, HFIN.out, HLN.out, ?_, ?_, HB02.out.trans (HB3.out.mono HB02.out.size)⟩
    · rw [Int.toNat_natCast]; exact HCE.out
    · rw [HLN.out]; try rfl
    · rw [HLN.out]; try rfl
      obtain ⟨h1, h2⟩ := HROW.out
      refine ⟨h1, h2.elim .inl (fun h3 => ?_)⟩
      obtain ⟨g', cap, cur, e1, e2, e3⟩ := h3
      exact .inr ⟨g', cap, cur, e1, Nat.le_trans HB02.out.size e2, e3⟩
end Go.Proofs.Ytlckjphnbfahgaa
namespace Go.Proofs.Ytlckjphnbfahgaa
open Go.RowKit
attribute [local go_sem] Oper.semAt_some
set_option maxRecDepth 100000 in
theorem bytesSame_any {base base' : Nat} (a b : Option Addr) (c c' : Nat) (l : List UInt8) (w : World) (ha : Cd.RowB base w a c l) (hb : Cd.RowB base' w b c' l) :
    Calls Try.prog 20 #[.slice a l.length c, .slice b l.length c'] w fun e w' => e = .returned (.bool true) ∧ w = w' := by
  have h1 := conv_bytes l ha
  have h2 := conv_bytes l hb
  obtain ⟨X, hX⟩ : ∃ X : ByteArray, (⟨l.toArray⟩ : ByteArray) = X := ⟨_, rfl⟩
  rw [hX] at h1 h2
  clear hX ha hb
  go_enter Try.func20, Try.ntmps20
  go_wp2
  go_ret
  exact ⟨rfl, rfl⟩
namespace Cd
def want : List UInt8 := [0, 1, 0, 1, 53, 0, 0, 0, 1, 0, 0, 0, 0, 0, 0, 0, 1, 0, 2, 0, 1, 0, 0, 0, 0, 0, 15, 0, 0, 0, 0]
theorem five_bytes : bytesP (five 1) (fun _ => ⟨#[53]⟩) = want := by kernel_rfl
/-- bytes that lie in a new row -/
theorem new_bytes {w w1 : World} {l : List UInt8} (h : w.alloc (.cells (Lib.byteCells l).toArray 5) = w1) (hl : l.length ≤ 1000) : RowB w.heap.size w1 (some ⟨w.heap.size, 0, none⟩) l.length l := by
  have h1 : w1.heap[w.heap.size]? = some (.cells (Lib.byteCells l).toArray 5 (0, 0)) := by rw [← h]; exact heap_alloc_new w _
  refine ⟨by rw [Lib.byteCells_length, Nat.mul_one], .inr ⟨_, _, _, rfl, Nat.le_refl _, h1, Nat.le_refl _, by unfold maxLen; omega, by simp [Lib.byteCells_length], by rw [Nat.mul_one, List.take_of_length_le (by rw [Lib.byteCells_length]; exact Nat.le_refl _)]⟩⟩
theorem FiveAt.below {w w' : World} {A B C : Nat} {m : Int} (h : FiveAt w A B C m) (hb : Below w.heap.size w w') : FiveAt w' A B C m :=
  ⟨(hb.block _ (lt_of h.ha)).trans h.ha, (hb.block _ (lt_of h.hb)).trans h.hb, (hb.block _ (lt_of h.hc)).trans h.hc⟩
theorem FiveAt.keep {S : Nat → Prop} {w w' : World} {A B C : Nat} {m : Int} (h : FiveAt w A B C m) (hk : Keep S w w') (h1 : ¬ S A) (h2 : ¬ S B) (h3 : ¬ S C) : FiveAt w' A B C m :=
  ⟨(hk.block _ (lt_of h.ha) h1).trans h.ha, (hk.block _ (lt_of h.hb) h2).trans h.hb, (hk.block _ (lt_of h.hc) h3).trans h.hc⟩
theorem FiveAt.set {w : World} {A B C : Nat} {m : Int} (h : FiveAt w A B C m) (h1 : A ≠ C) (h2 : B ≠ C) (n : Int) : FiveAt (w.setCell ⟨C, 3, none⟩ (.int .i64 n)) A B C n := by
  have hk := (Keep.refl (fun k => k = C) w).setCell rfl 3 (.int .i64 n)
  refine ⟨(hk.block _ (lt_of h.ha) h1).trans h.ha, (hk.block _ (lt_of h.hb) h2).trans h.hb, ?_⟩
  have hc := h.hc
  show ((w.heap.modify C _))[C]? = _
  rw [Array.getElem?_modify, if_pos rfl, hc]
  rfl
theorem RowB.keep {S : Nat → Prop} {base : Nat} {w w' : World} {a : Option Addr} {c : Nat} {l : List UInt8} (h : RowB base w a c l) (hk : Keep S w w') (hS : ∀ k, k < w.heap.size → ¬ S k) : RowB base w' a c l := by
  obtain ⟨h1, h2⟩ := h
  refine ⟨h1, h2.elim .inl (fun h3 => ?_)⟩
  obtain ⟨g, cap, cur, e1, e2, e3, e4⟩ := h3
  exact .inr ⟨g, cap, cur, e1, e2, (hk.block g (lt_of e3) (hS g (lt_of e3))).trans e3, e4⟩
/-- a row that is owned, as numbers -/
theorem own_ints {w : World} {base g : Nat} {l : List Int} {n c : Nat} (h : w.ownsRow base 3 1 (.slice (some ⟨g, 0, none⟩) n c) n (l.map (Value.int .i64))) (hl : l.length = n) : Dt.IRow (fun _ => True) w (.slice (some ⟨g, 0, none⟩) n c) l := by
  have h2 := h.2
  rcases h2 with ⟨e, _⟩ | ⟨g', cap, cur, e, e2, e3, e4, e5, e6, e7⟩
  · cases e
  · cases e
    refine ⟨_, _, by rw [hl], by omega, fun _ => ⟨g, 0, rfl, trivial, lt_of e3, fun j hj => ?_⟩⟩
    have := h.cells (g := g) rfl j (.int .i64 l[j]) (by rw [List.getElem?_map, List.getElem?_eq_getElem hj]; rfl)
    rw [addr0] at this
    rw [Nat.zero_add]
    exact this
end Cd
theorem depths5_any {A B C : Nat} (w : World) (hf : Cd.FiveAt w A B C 1) :
    Calls Try.prog 9 #[.agg #[.slice (some ⟨C, 0, none⟩) 1 1, .slice (some ⟨A, 0, none⟩) 1 1, .slice none 0 0], .int .i64 0] w fun e w' => ∃ g, e = .returned (.tuple #[.slice (some ⟨g, 0, none⟩) 2 2, .int .i64 0]) ∧ Dt.IRow (fun _ => True) w' (.slice (some ⟨g, 0, none⟩) 2 2) [0, 1] ∧ Below w.heap.size w w' := by
  refine (depths_any (Cd.five 1) 0 _ _ _ w hf.rep (Cd.five_wf 1 ⟨by decide, by decide⟩)).mono ?_
  intro e w' h
  unfold Cd.DepthsPost at h
  rw [if_neg (fun h => h Cd.five_check), if_neg (by rintro (h | h); exact absurd h (by decide); exact absurd h (by decide))] at h
  obtain ⟨c, fin, g, h1, h2, h3, rfl, h4, h5⟩ := h
  obtain rfl : Cd.fiveC 1 = c := Option.some.inj h1
  have h6 := Cd.five_flow
  have h7 : (Cd.fiveC 1).ins.length = 2 := rfl
  rw [h7, h6] at h2
  obtain ⟨rfl, -⟩ := Prod.mk.inj (Option.some.inj h2)
  exact ⟨g, rfl, Cd.own_ints h4 rfl, h5⟩
set_option maxRecDepth 100000 in
set_option maxHeartbeats 8000000 in
theorem awake_any (w : World) :
    Calls Try.prog 7 #[] w fun e w' => e = .returned (.bool true) ∧ Below w.heap.size w w' := by
  have h5 := five_any w
  go_enter Try.func7, Try.ntmps7
  go_upto_region 2 with (first | (go_at_call 19; refine h5.mono ?_; clear h5; rintro e w1 ⟨A, B, C, rfl, hf, -, -, -, hb1⟩; have hby := bytes_any (Cd.five 1) (fun _ => ⟨#[53]⟩) _ _ _ w1 hf.rep (Cd.five_wf 1 ⟨by decide, by decide⟩) Cd.five_check (fun d hd => by { obtain rfl : d = Cd.fiveD := (by simpa [Cd.five] using hd); exact Cd.five_text }) (by rw [Cd.five_bytes]; decide); rw [Cd.five_bytes] at hby; have HB1 := Lib.hid hb1; clear hf hb1) | (go_at_call 18; refine hby.mono ?_; clear hby; rintro e w2 ⟨ab, cb, rfl, hr2, hb2⟩; have HR2 := Lib.hid hr2; have HB2 : Hid (Below w.heap.size w w2) := HB1.out.trans (hb2.mono HB1.out.size); clear hr2 hb2))
  have h5b := five_any w2
  go_upto_region 3 with (first | (go_at_call 19; refine h5b.mono ?_; clear h5b; rintro e w3 ⟨A2, B2, C2, rfl, hf, -, -, -, hb3⟩; have hdp := depths5_any w3 hf; have HB3 : Hid (Below w.heap.size w w3) := HB2.out.trans (hb3.mono HB2.out.size); have HR3 := Lib.hid (HR2.out.below hb3); clear hf hb3) | (go_at_call 9; refine hdp.mono ?_; clear hdp; rintro e w4 ⟨g, rfl, hi4, hb4⟩; have HB4 : Hid (Below w.heap.size w w4) := HB3.out.trans (hb4.mono HB3.out.size); have HI4 := Lib.hid hi4; have HR4 := Lib.hid (HR3.out.below hb4); clear hi4 hb4))
  have h5c := five_any w4
  go_upto_region 4 with (go_at_call 19; refine h5c.mono ?_; clear h5c; rintro e w5 ⟨A3, B3, C3, rfl, hf5, hAC, hBC, hC5, hb5⟩; refine Hid.out ?_)
  refine Lib.hid ?_
  obtain ⟨wa, hwa⟩ : ∃ wa, w5.alloc (.cells #[.slice (some ⟨C3, 0, none⟩) 1 1, .slice (some ⟨A3, 0, none⟩) 1 1, .slice none 0 0] 26) = wa := ⟨_, rfl⟩
  obtain ⟨hba, hsa, hbpa⟩ := Cd.boxP hwa
  obtain ⟨p0a, p1a, p2a⟩ := hbpa wa (Below.refl _ _)
  have hDa : wa.heap[w5.heap.size]? = some (.cells #[.slice (some ⟨C3, 0, none⟩) 1 1, .slice (some ⟨A3, 0, none⟩) 1 1, .slice none 0 0] 26 (0, 0)) := by rw [← hwa]; exact heap_alloc_new w5 _
  have f2a : wa.frozen? ⟨w5.heap.size, 2, none⟩ = false := Lib.frozen_of_heap hDa 2
  obtain ⟨w6, hw6⟩ : ∃ w6, wa.setCell ⟨w5.heap.size, 2, none⟩ (.slice none 0 0) = w6 := ⟨_, rfl⟩
  have hka6 : Keep (fun k => k = w5.heap.size) wa w6 := by rw [← hw6]; exact (Keep.refl (fun k => k = w5.heap.size) wa).setCell rfl 2 _
  have hb6 : Below w5.heap.size w5 w6 := hba.trans (hka6.to_below (fun k hk => by omega) (by omega))
  have hs6 : w6.heap.size = w5.heap.size + 1 := by rw [← hw6, World.size_setCell, hsa]
  have p0 : w6.cell? ⟨w5.heap.size, 0, none⟩ = some (.slice (some ⟨C3, 0, none⟩) 1 1) := by rw [← hw6]; exact (World.cell?_setCell_other _ _ _ _ (by intro e; cases e)).trans p0a
  have p1 : w6.cell? ⟨w5.heap.size, 1, none⟩ = some (.slice (some ⟨A3, 0, none⟩) 1 1) := by rw [← hw6]; exact (World.cell?_setCell_other _ _ _ _ (by intro e; cases e)).trans p1a
  have p2 : w6.cell? ⟨w5.heap.size, 2, none⟩ = some (.slice none 0 0) := by rw [← hw6]; exact World.cell?_setCell_same _ _ _ p2a
  have hf6 := hf5.below hb6
  have c3 : w6.cell? ⟨C3, 3, none⟩ = some (.int .i64 1) := by rw [Cd.cellAt hf6.hc]; rfl
  have f3 : w6.frozen? ⟨C3, 3, none⟩ = false := Lib.frozen_of_heap hf6.hc 3
  obtain ⟨w7, hw7⟩ : ∃ w7, w6.setCell ⟨C3, 3, none⟩ (.int .i64 2) = w7 := ⟨_, rfl⟩
  have hf7 := hf6.set hAC hBC 2
  rw [hw7] at hf7
  have hCl : C3 < w5.heap.size := Cd.lt_of hf5.hc
  have hk67 : Keep (fun k => k = C3) w6 w7 := by rw [← hw7]; exact (Keep.refl (fun k => k = C3) w6).setCell rfl 3 _
  have hk47 : Keep (fun k => k = C3) w4 w7 := (((Keep.refl (fun k => k = C3) w4).below hb5).below hb6).trans hk67
  have HB7 : Hid (Below w.heap.size w w7) := HB4.out.trans (hk47.to_below (fun k hk => by have := HB4.out.size; omega) HB4.out.size)
  have HR7 := Lib.hid (HR4.out.keep hk47 (fun k hk e => by omega))
  have HI7 := Lib.hid (HI4.out.keep hk47 (fun k _ hk e => by omega))
  have HF7 := Lib.hid hf7
  obtain ⟨D, hD⟩ : ∃ D, w5.heap.size = D := ⟨_, rfl⟩
  rw [hD] at p0 p1 p2 hCl p0a p1a p2a f2a hw6
  have hne : D ≠ C3 := by omega
  have z0 := (hk67.cell 0 (by rw [hs6]; omega) (fun e => hne e)).trans p0
  have z1 := (hk67.cell 1 (by rw [hs6]; omega) (fun e => hne e)).trans p1
  have z2 := (hk67.cell 2 (by rw [hs6]; omega) (fun e => hne e)).trans p2
  have HZ7 := Lib.hid (show D < w7.heap.size by have := hk67.size; have := hs6; omega)
  have HZ0 := Lib.hid z0
  have HZ1 := Lib.hid z1
  have HZ2 := Lib.hid z2
  clear hba hsa hbpa hDa hka6 hb6 hf6 hf7 hf5 hCl hk67 hk47 hAC hBC hC5 hb5 hne z0 z1 z2
  go_upto_region 5 with fail
  have hsz : w6.heap.size = w7.heap.size := by rw [← hw7, World.size_setCell]
  clear hw6 hwa p0 p1 p2 p0a p1a p2a f2a c3 f3 hD hs6
  obtain ⟨w8, hw8⟩ : ∃ w8, w7.alloc (.cells #[.int .u8 0, .int .u8 1, .int .u8 0, .int .u8 1, .int .u8 53, .int .u8 0, .int .u8 0, .int .u8 0, .int .u8 1, .int .u8 0, .int .u8 0, .int .u8 0, .int .u8 0, .int .u8 0, .int .u8 0, .int .u8 0, .int .u8 1, .int .u8 0, .int .u8 2, .int .u8 0, .int .u8 1, .int .u8 0, .int .u8 0, .int .u8 0, .int .u8 0, .int .u8 0, .int .u8 15, .int .u8 0, .int .u8 0, .int .u8 0, .int .u8 0] 5) = w8 := ⟨_, rfl⟩
  obtain ⟨hb8, -⟩ := Cd.below_new (Below.refl _ w7) hw8 (Nat.le_refl _)
  have hl8 := Cd.new_bytes (l := Cd.want) hw8 (by decide)
  have hl8b : Cd.RowB w7.heap.size w8 (some ⟨w7.heap.size, 0, none⟩) 31 Cd.want := hl8
  have hbs := bytesSame_any ab (some ⟨w7.heap.size, 0, none⟩) cb 31 Cd.want w8 (HR7.out.below hb8) hl8b
  have hbs2 : Calls Try.prog 20 #[.slice ab Cd.want.length cb, .slice (some ⟨w7.heap.size, 0, none⟩) 31 31] w8 fun e w' => e = .returned (.bool true) ∧ w8 = w' := hbs
  obtain ⟨w9, hw9⟩ : ∃ w9, w8.alloc (.cells #[.int .i64 0, .int .i64 1] 3) = w9 := ⟨_, rfl⟩
  obtain ⟨hi9, hb9, -⟩ := Cd.new_ints (l := [0, 1]) hw9
  have hb79 := hb8.trans (hb9.mono hb8.size)
  have hie := iEqual_any _ _ [0, 1] [0, 1] w9 (HI7.out.below hb79) hi9 (by decide) (by decide)
  rw [show decide (([0, 1] : List Int) = [0, 1]) = true by decide] at hie
  have hie2 : Calls Try.prog 13 #[.slice (some ⟨g, 0, none⟩) 2 2, .slice (some ⟨w8.heap.size, 0, none⟩) 2 2] w9 fun e w' => e = .returned (.bool true) ∧ Below w9.heap.size w9 w' := hie
  have HB79 := Lib.hid hb79
  clear hbs hb8 hl8 hl8b hi9 hb9 hie hb79
  go_wp2_with (first | (go_at_call 20; refine hbs2.mono ?_; clear hbs2 hsz hw7; rintro e w10 ⟨rfl, rfl⟩) | (go_at_call 13; refine hie2.mono ?_; clear hie2 hw8 hw9; rintro e w10 ⟨rfl, hb10⟩; have hb710 := HB79.out.trans (hb10.mono HB79.out.size); have z0 := (hb710.cell (p := ⟨D, 0, none⟩) HZ7.out).trans HZ0.out; have z1 := (hb710.cell (p := ⟨D, 1, none⟩) HZ7.out).trans HZ1.out; have z2 := (hb710.cell (p := ⟨D, 2, none⟩) HZ7.out).trans HZ2.out; have hck := check_any (Cd.five 2) _ _ _ w10 (HF7.out.below hb710).rep (Cd.five_wf 2 ⟨by decide, by decide⟩); rw [Cd.five_check2] at hck; have HB10 : Hid (Below w.heap.size w w10) := HB7.out.trans (hb710.mono HB7.out.size); clear hb10 hb710) | (go_at_call 11; refine hck.mono ?_; clear hck; rintro e w11 ⟨rfl, hb11⟩; have HB11 := Lib.hid (HB10.out.trans (hb11.mono HB10.out.size)); clear hb11))
  go_ret
  exact ⟨rfl, HB11.out⟩
end Go.Proofs.Ytlckjphnbfahgaa
namespace Go.Proofs.Ytlckjphnbfahgaa
open Go.RowKit
attribute [local go_sem] Oper.semAt_some
def Cd.sizeD (x : Dt.D) : Nat := if Dt.check x = 0 then (Dt.pre x).length else 0
set_option maxRecDepth 100000 in
set_option maxHeartbeats 4000000 in
theorem rSize_any {F : Nat → Prop} (x : Dt.D) (vm vl vt : Value) (w : World) (hW : Dt.Wf x) (hR : Dt.Rep F w x vm vl vt) :
    Calls Try.prog 21 #[.agg #[.int .i64 x.k, .int .i64 x.n, .string x.s, vm, vl, vt]] w fun e w' => e = .returned (.int .i64 (Cd.sizeD x : Nat)) ∧ Below w.heap.size w w' := by
  have hb0 : Below w.heap.size w (w.alloc (.cells #[.int .i64 x.k, .int .i64 x.n, .string x.s, vm, vl, vt] 55)) := (Below.refl _ _).alloc (Nat.le_refl _) _
  have hw := rAll_any x vm vl vt _ hW (hR.below hb0)
  have HB := Lib.hid hb0
  obtain ⟨a1, n1, q1, a2, n2, q2, a3, n3, q3, rfl, rfl, rfl⟩ := hR.forms
  clear hR hW hb0
  go_enter Try.func21, Try.ntmps21
  go_wp2_with fail
  refine hw.mono ?_
  rintro e w1 ⟨vp, ls, rfl, hK, hp, hd, hl, hb1⟩
  obtain ⟨ap, cp, rfl⟩ := Dt.row_form hK
  have HL : Hid ((ls.length : Int) = (Cd.sizeD x : Nat)) := by
    show _ = _
    unfold Cd.sizeD
    rw [← List.length_map (f := Dt.P.d), hd]
    split <;> rfl
  have HB1 : Hid (Below w.heap.size w w1) := HB.out.trans (hb1.mono HB.out.size)
  clear hw hK hp hd hl hb1
  go_wp2
  go_ret
  exact ⟨by rw [HL.out]; rfl, HB1.out⟩
set_option maxRecDepth 100000 in
set_option maxHeartbeats 8000000 in
theorem few_any {F : Nat → Prop} (p : Cd.Prog) (vc vk vn : Value) (w : World) (hp : Cd.PRep F w p vc vk vn) (hw : Cd.PWf p) :
    Calls Try.prog 8 #[.agg #[vc, vk, vn]] w fun e w' => (∃ b, e = .returned (.bool b)) ∧ Below w.heap.size w w' := by
  obtain ⟨a1, c1, a2, c2, a3, c3, rfl, rfl, rfl⟩ := hp.forms
  obtain ⟨w1, hw1⟩ : ∃ w1, w.alloc (.cells #[.slice a1 p.codes.length c1, .slice a2 p.consts.length c2, .slice a3 p.names.length c3] 26) = w1 := ⟨_, rfl⟩
  obtain ⟨hb1, hs1, hbp⟩ := Cd.boxP hw1
  obtain ⟨p0, p1, p2⟩ := hbp w1 (Below.refl _ _)
  have HP := Lib.hid hp
  have HW := Lib.hid hw
  have HB1 := Lib.hid hb1
  have HS1 := Lib.hid hs1
  have HBP := Lib.hid hbp
  clear hp hw hb1 hs1 hbp
  by_cases l1 : 40 < p.codes.length
  · have l1' : (40 : Int) < (p.codes.length : Int) := by omega
    go_enter Try.func8, Try.ntmps8
    go_wp2
    go_ret
    exact ⟨⟨_, rfl⟩, HB1.out⟩
  have l1' : decide ((40 : Int) < (p.codes.length : Int)) = false := decide_eq_false (by omega)
  by_cases l2 : 60 < p.consts.length
  · have l2' : decide ((60 : Int) < (p.consts.length : Int)) = true := decide_eq_true (by omega)
    clear l1 l2
    go_enter Try.func8, Try.ntmps8
    go_wp2
    go_ret
    exact ⟨⟨_, rfl⟩, HB1.out⟩
  have l2' : decide ((60 : Int) < (p.consts.length : Int)) = false := decide_eq_false (by omega)
  by_cases l3 : 60 < p.names.length
  · have l3' : decide ((60 : Int) < (p.names.length : Int)) = true := decide_eq_true (by omega)
    clear l1 l2 l3
    go_enter Try.func8, Try.ntmps8
    go_wp2
    go_ret
    exact ⟨⟨_, rfl⟩, HB1.out⟩
  have l3' : decide ((60 : Int) < (p.names.length : Int)) = false := decide_eq_false (by omega)
  have hl1 : p.codes.length ≤ 40 := by omega
  have hl2 : p.consts.length ≤ 60 := by omega
  have hl3 : p.names.length ≤ 60 := by omega
  clear l1 l2 l3
  go_enter Try.func8, Try.ntmps8
  go_wp2
  clear l1' l2' l3'
  go_loopw [28] (fun v wr => ∃ k : Nat, v = .int .i64 k ∧ k ≤ p.codes.length ∧ Hid (Below w1.heap.size w1 wr)) (fun v _ => p.codes.length - (intOf v).toNat)
  case atStart => exact ⟨0, rfl, by omega, Below.refl _ _⟩
  case round =>
    obtain ⟨k, rfl, hk, HBR⟩ := hrel
    obtain ⟨p0', p1', p2'⟩ := HBP.out wr HBR.out
    by_cases hlt : k < p.codes.length
    · have hlti : (k : Int) < (p.codes.length : Int) := by omega
      have HB : Hid (Below w.heap.size w wr) := HB1.out.trans (HBR.out.mono HB1.out.size)
      obtain ⟨b, o, rfl, -, -, x0, x1, x2, x3, vi, x4, hi⟩ := Cd.code_at (HP.out.below HB.out).codes k hlt
      obtain ⟨ai, ci, rfl⟩ := hi.form
      obtain ⟨c, hc⟩ : ∃ c, c = p.codes[k] := ⟨_, rfl⟩
      rw [← hc] at x0 x1 x2 x3 x4
      have HBN : Hid (Below w1.heap.size w1 (wr.alloc (.cells #[.int .i64 c.params, .int .i64 c.rest, .int .i64 c.caps, .int .i64 c.max, .slice ai c.ins.length ci] 39))) := HBR.out.alloc HBR.out.size _
      clear hi hc
      by_cases h4 : 400 < c.ins.length
      · have h4' : (400 : Int) < (c.ins.length : Int) := by omega
        go_wp2
        go_ret
        exact ⟨⟨_, rfl⟩, HB1.out.trans (HBN.out.mono HB1.out.size)⟩
      · have h4' : decide ((400 : Int) < (c.ins.length : Int)) = false := decide_eq_false (by omega)
        clear h4
        go_wp2
        go_roundw
        case rel => exact ⟨k + 1, by simp, by omega, HBN⟩
        case measure => simp [intOf]; omega
    · have hge : (p.codes.length : Int) ≤ (k : Int) := by omega
      have hd : decide (k < p.codes.length) = false := decide_eq_false hlt
      have hd' : (k < p.codes.length) = False := eq_false hlt
      clear hlt p0 p1 p2
      go_wp2
      try simp only [hd, hd', decide_false]
      clear hd hd'
      go_loopw [40] (fun v wz => ∃ k : Nat, v = .int .i64 k ∧ k ≤ p.consts.length ∧ Hid (Below w1.heap.size w1 wz)) (fun v _ => p.consts.length - (intOf v).toNat)
      case atStart => exact ⟨0, rfl, by omega, HBR⟩
      case round =>
        clear hge hk p0' p1' p2' HBR
        obtain ⟨k, rfl, hk, HBR⟩ := hrel
        obtain ⟨p0', p1', p2'⟩ := HBP.out _ HBR.out
        by_cases hlt : k < p.consts.length
        · have hlti : (k : Int) < (p.consts.length : Int) := by omega
          have HB : Hid (Below w.heap.size w _) := HB1.out.trans (HBR.out.mono HB1.out.size)
          obtain ⟨b, o, vm, vl, vt, rfl, -, ⟨x0, x1, x2, x3, x4, x5⟩, hrep⟩ := Cd.const_at (HP.out.below HB.out).consts k hlt
          have hwf := Cd.wfs_at HW.out.wk k hlt
          obtain ⟨x, hx⟩ : ∃ x, x = p.consts[k] := ⟨_, rfl⟩
          rw [← hx] at x0 x1 x2 hrep hwf
          obtain ⟨am, cm, al, c_l, at_, ct, rfl, rfl, rfl⟩ : ∃ am cm al c_l at_ ct, vm = .slice am x.m.length cm ∧ vl = .slice al x.l.length c_l ∧ vt = .slice at_ x.t.length ct := by
            obtain ⟨⟨a1, c1, h1, _⟩, ⟨a2, c2, h2, _⟩, ⟨a3, c3, h3, _⟩⟩ := (Dt.rep_iff _ _ x vm vl vt).1 hrep
            exact ⟨_, _, _, _, _, _, h1, h2, h3⟩
          obtain ⟨w4, hw4⟩ : ∃ w4, wr.alloc (.cells #[.int .i64 x.k, .int .i64 x.n, .string x.s, .slice am x.m.length cm, .slice al x.l.length c_l, .slice at_ x.t.length ct] 55) = w4 := ⟨_, rfl⟩
          have hb4 : Below wr.heap.size wr w4 := by rw [← hw4]; exact (Below.refl _ _).alloc (Nat.le_refl _) _
          have hsix := Dt.six_of' wr x (.slice am x.m.length cm) (.slice al x.l.length c_l) (.slice at_ x.t.length ct) 55
          rw [hw4] at hsix
          obtain ⟨z0, z1, z2, z3, z4, z5⟩ := hsix
          simp only [Nat.zero_add] at z0 z1 z2 z3 z4 z5
          have hsz := rSize_any x _ _ _ w4 hwf (hrep.below hb4)
          obtain ⟨Z, hZ⟩ : ∃ Z : Int, Z = (Cd.sizeD x : Nat) := ⟨_, rfl⟩
          rw [← hZ] at hsz
          have HB4 : Hid (Below w1.heap.size w1 w4) := HBR.out.trans (hb4.mono HBR.out.size)
          clear hx hb4 hrep hwf hZ
          by_cases g0 : 1000 < x.s.size
          · have g0' : decide ((1000 : Int) < (x.s.size : Int)) = true := decide_eq_true (by omega)
            clear g0
            go_wp2
            go_ret
            exact ⟨⟨_, rfl⟩, HB1.out.trans (HB4.out.mono HB1.out.size)⟩
          have g0' : decide ((1000 : Int) < (x.s.size : Int)) = false := decide_eq_false (by omega)
          clear g0
          by_cases g1 : 100 < x.m.length
          · have g1' : decide ((100 : Int) < (x.m.length : Int)) = true := decide_eq_true (by omega)
            clear g1
            go_wp2
            go_ret
            exact ⟨⟨_, rfl⟩, HB1.out.trans (HB4.out.mono HB1.out.size)⟩
          have g1' : decide ((100 : Int) < (x.m.length : Int)) = false := decide_eq_false (by omega)
          clear g1
          by_cases g2 : 300 < x.l.length
          · have g2' : decide ((300 : Int) < (x.l.length : Int)) = true := decide_eq_true (by omega)
            clear g2
            go_wp2
            go_ret
            exact ⟨⟨_, rfl⟩, HB1.out.trans (HB4.out.mono HB1.out.size)⟩
          have g2' : decide ((300 : Int) < (x.l.length : Int)) = false := decide_eq_false (by omega)
          clear g2
          by_cases g3 : 10 < x.t.length
          · have g3' : decide ((10 : Int) < (x.t.length : Int)) = true := decide_eq_true (by omega)
            clear g3
            go_wp2
            go_ret
            exact ⟨⟨_, rfl⟩, HB1.out.trans (HB4.out.mono HB1.out.size)⟩
          have g3' : decide ((10 : Int) < (x.t.length : Int)) = false := decide_eq_false (by omega)
          clear g3
          by_cases g5 : 400 < Z
          · go_wp2_with (go_at_call 21; refine hsz.mono ?_; clear hsz; rintro e w9 ⟨rfl, hb9⟩; have HB9 : Hid (Below w1.heap.size w1 w9) := HB4.out.trans (hb9.mono HB4.out.size); clear hb9)
            go_ret
            exact ⟨⟨_, rfl⟩, HB1.out.trans (HB9.out.mono HB1.out.size)⟩
          · have g5' : decide (400 < Z) = false := decide_eq_false g5
            clear g5
            go_wp2_with (go_at_call 21; refine hsz.mono ?_; clear hsz; rintro e w9 ⟨rfl, hb9⟩; have HB9 : Hid (Below w1.heap.size w1 w9) := HB4.out.trans (hb9.mono HB4.out.size); clear hb9)
            go_roundw
            case rel => exact ⟨k + 1, by simp, by omega, HB9⟩
            case measure => simp [intOf]; omega
        · have hge : (p.consts.length : Int) ≤ (k : Int) := by omega
          have hd' : (k < p.consts.length) = False := eq_false hlt
          clear hlt
          go_wp2
          try simp only [hd', decide_false]
          clear hd'
          go_loopw [75] (fun v wz => ∃ k : Nat, v = .int .i64 k ∧ k ≤ p.names.length ∧ Hid (Below w1.heap.size w1 wz)) (fun v _ => p.names.length - (intOf v).toNat)
          case atStart => exact ⟨0, rfl, by omega, HBR⟩
          case round =>
            clear hge hk p0' p1' p2' HBR
            obtain ⟨k, rfl, hk, HBR⟩ := hrel
            by_cases hlt : k < p.names.length
            · have hlti : (k : Int) < (p.names.length : Int) := by omega
              have HB : Hid (Below w.heap.size w _) := HB1.out.trans (HBR.out.mono HB1.out.size)
              obtain ⟨b, o, rfl, -, x0⟩ := Cd.name_at (HP.out.below HB.out).names k hlt
              obtain ⟨x, hx⟩ : ∃ x, x = p.names[k] := ⟨_, rfl⟩
              rw [← hx] at x0
              clear hx
              by_cases g0 : 1000 < x.size
              · have g0' : decide ((1000 : Int) < (x.size : Int)) = true := decide_eq_true (by omega)
                clear g0
                go_wp2
                go_ret
                exact ⟨⟨_, rfl⟩, HB.out⟩
              · have g0' : decide ((1000 : Int) < (x.size : Int)) = false := decide_eq_false (by omega)
                clear g0
                go_wp2
                go_roundw
                case rel => exact ⟨k + 1, by simp, by omega, HBR⟩
                case measure => simp [intOf]; omega
            · have hge : (p.names.length : Int) ≤ (k : Int) := by omega
              clear hlt
              go_wp2
              go_ret
              exact ⟨⟨_, rfl⟩, HB1.out.trans (HBR.out.mono HB1.out.size)⟩
end Go.Proofs.Ytlckjphnbfahgaa
namespace Go.Proofs.Ytlckjphnbfahgaa
open Go.RowKit
attribute [local go_sem] Oper.semAt_some
namespace Dt
mutual
theorem strip_iff : ∀ d : D, strip false d = d ↔ (pre d).all (fun x => x.m.isEmpty) = true
  | .mk k n s m l t => by
    rw [strip, pre, List.all_cons, List.all_append, Bool.and_eq_true, Bool.and_eq_true, ← strips_iff l, ← strips_iff t]
    simp only [Bool.false_eq_true, if_false, D.mk.injEq, true_and]
    show _ ↔ m.isEmpty = true ∧ _
    rw [List.isEmpty_iff]
    constructor
    · rintro ⟨h1, h2, h3⟩
      exact ⟨h1.symm, h2, h3⟩
    · rintro ⟨h1, h2, h3⟩
      exact ⟨h1.symm, h2, h3⟩
theorem strips_iff : ∀ l : List D, strips false l = l ↔ (pres l).all (fun x => x.m.isEmpty) = true
  | [] => by simp [strips, pres]
  | d :: r => by
    rw [strips, pres, List.all_append, Bool.and_eq_true, ← strip_iff d, ← strips_iff r, List.cons.injEq]
end
theorem bset {w : World} {b i : Nat} {cs : Array Value} {t : TypeId} {v : Value} (h : w.heap[b]? = some (.cells cs t (0, 0))) : (w.setCell ⟨b, i, none⟩ v).heap[b]? = some (.cells (cs.setIfInBounds i v) t (0, 0)) := by
  show ((w.heap.modify b _))[b]? = _
  rw [Array.getElem?_modify, if_pos rfl, h]
  rfl
/-- a checked datum is plain just where it is itself without marks -/
theorem same_plain {d : D} (h : check d = 0) : sameD d (strip false d) = Cd.plainD d := by
  unfold Cd.plainD sameD
  rw [h]
  by_cases e : strip false d = d
  · rw [e, h, (strip_iff d).1 e, (eqD_iff d d).2 rfl]
    rfl
  · have h1 : eqD d (strip false d) = false := by
      cases h2 : eqD d (strip false d) with
      | false => rfl
      | true => exact absurd ((eqD_iff _ _).1 h2).symm e
    have h3 : (pre d).all (fun x => x.m.isEmpty) = false := by
      cases h2 : (pre d).all (fun x => x.m.isEmpty) with
      | false => rfl
      | true => exact absurd ((strip_iff d).2 h2) e
    rw [h1, h3]
    simp
theorem sameD_comm (a b : D) : sameD a b = sameD b a := by
  unfold sameD
  have : eqD a b = eqD b a := by
    cases h1 : eqD a b with
    | true =>
      have := (eqD_iff a b).1 h1
      subst this
      exact h1.symm
    | false =>
      cases h2 : eqD b a with
      | false => rfl
      | true =>
        have := (eqD_iff b a).1 h2
        subst this
        rw [h1] at h2
        exact h2
  rw [this, Bool.and_comm (decide (check a = 0))]
mutual
theorem strip_wf : ∀ d : D, Wf d → Wf (strip false d)
  | .mk k n s m l t, h => by
    rw [strip, Wf]
    rw [Wf] at h
    obtain ⟨h1, h2, h3, h4, h5, h6, h7⟩ := h
    exact ⟨h1, h2, by simp, by rw [strips_length]; exact h4, by rw [strips_length]; exact h5, strips_wf l h6, strips_wf t h7⟩
theorem strips_wf : ∀ l : List D, Wfs l → Wfs (strips false l)
  | [], _ => by rw [strips]; trivial
  | d :: r, h => by rw [strips]; exact ⟨strip_wf d h.1, strips_wf r h.2⟩
end
end Dt
set_option maxRecDepth 100000 in
set_option maxHeartbeats 4000000 in
theorem rPlain_ok {F : Nat → Prop} (x : Dt.D) (vm vl vt : Value) (w : World) (hW : Dt.Wf x) (hR : Dt.Rep F w x vm vl vt) (hc : Dt.check x = 0) :
    Calls Try.prog 33 #[.agg #[.int .i64 x.k, .int .i64 x.n, .string x.s, vm, vl, vt]] w fun e w' => Dt.Fresh w.heap.size w' (Dt.strip false x) e ∧ Below w.heap.size w w' := by
  obtain ⟨⟨am, cm, rfl, _⟩, ⟨al, c_l, rfl, _⟩, ⟨at_, ct, rfl, _⟩⟩ := (Dt.rep_iff _ _ x vm vl vt).1 hR
  obtain ⟨w1, hw1⟩ : ∃ w1, w.alloc (.cells #[.int .i64 x.k, .int .i64 x.n, .string x.s, .slice am x.m.length cm, .slice al x.l.length c_l, .slice at_ x.t.length ct] 55) = w1 := ⟨_, rfl⟩
  have hsix := Dt.six_of' w x (.slice am x.m.length cm) (.slice al x.l.length c_l) (.slice at_ x.t.length ct) 55
  rw [hw1] at hsix
  obtain ⟨hb1, hs1⟩ := Cd.below_new (Below.refl _ w) hw1 (Nat.le_refl _)
  obtain ⟨w2, hw2⟩ : ∃ w2, w1.alloc (.cells #[.int .i64 0, .int .i64 0, .string ⟨#[]⟩, .slice none 0 0, .slice none 0 0, .slice none 0 0] 55) = w2 := ⟨_, rfl⟩
  obtain ⟨hb2, hs2⟩ := Cd.below_new (Below.refl _ w1) hw2 (Nat.le_refl _)
  have hB := (by rw [← hw2]; exact heap_alloc_new w1 _ : w2.heap[w1.heap.size]? = some (.cells #[.int .i64 0, .int .i64 0, .string ⟨#[]⟩, .slice none 0 0, .slice none 0 0, .slice none 0 0] 55 (0, 0)))
  have HB2 : Hid (Below w.heap.size w w2) := hb1.trans (hb2.mono hb1.size)
  have HSIX : Hid (∀ W, Below w2.heap.size w2 W → Dt.Six W w.heap.size 0 x (.slice am x.m.length cm) (.slice al x.l.length c_l) (.slice at_ x.t.length ct)) := fun W hW => Dt.Six.keep (Dt.Six.keep hsix ((Keep.refl (fun _ => False) w1).below hb2) (block_lt_of_cell hsix.1) id) ((Keep.refl (fun _ => False) w2).below hW) (by omega) id
  obtain ⟨x0, x1, x2, x3, x4, x5⟩ := HSIX.out w2 (Below.refl _ _)
  simp only [Nat.zero_add] at x0 x1 x2 x3 x4 x5
  have hck := rCheck_any x _ _ _ w2 hW (hR.below HB2.out)
  rw [hc] at hck
  have HMK : Hid (∀ W, Below w2.heap.size w2 W → Calls Try.prog 61 #[.agg #[.int .i64 x.k, .int .i64 x.n, .string x.s, .slice am x.m.length cm, .slice al x.l.length c_l, .slice at_ x.t.length ct], .bool false] W fun e w' => Dt.Fresh W.heap.size w' (Dt.strip false x) e ∧ Below W.heap.size W w') := fun W hWb => Dt.made_any false x F _ _ _ W hW (Dt.fine_of_check hc) ((hR.below HB2.out).below hWb)
  have HBB := Lib.hid hB
  have HS : Hid (w1.heap.size = w.heap.size + 1 ∧ w2.heap.size = w.heap.size + 2) := ⟨hs1, by omega⟩
  clear hsix hb1 hb2 hs1 hs2 hB hW hR hc
  go_enter Try.func33, Try.ntmps33
  go_upto_region 3 with (go_at_call 31; refine hck.mono ?_; clear hck hw1 hw2 x0 x1 x2 x3 x4 x5; rintro e w3 ⟨rfl, hb3⟩; have HB3 := Lib.hid hb3; obtain ⟨x0, x1, x2, x3, x4, x5⟩ := HSIX.out w3 hb3; simp only [Nat.zero_add] at x0 x1 x2 x3 x4 x5; clear hb3)
  have hmk := HMK.out w3 HB3.out
  go_wp2_with (go_at_call 61; refine hmk.mono ?_; clear hmk x0 x1 x2 x3 x4 x5; rintro e w4 ⟨⟨um, ul, ut, rfl, hr4⟩, hb4⟩; refine Hid.out ?_)
  refine Lib.hid ?_
  obtain ⟨b1, m1, p1, b2, m2, p2, b3, m3, p3, rfl, rfl, rfl⟩ := hr4.forms
  obtain ⟨B, hBe⟩ : ∃ B, w1.heap.size = B := ⟨_, rfl⟩
  have hB4 : w4.heap[B]? = some (.cells #[.int .i64 0, .int .i64 0, .string ⟨#[]⟩, .slice none 0 0, .slice none 0 0, .slice none 0 0] 55 (0, 0)) := (hb4.block B (by have := HS.out; have := HB3.out.size; omega)).trans ((HB3.out.block B (by have := HS.out; omega)).trans (hBe ▸ HBB.out))
  obtain ⟨y, hy⟩ : ∃ y, y = Dt.strip false x := ⟨_, rfl⟩
  rw [← hy] at hr4 ⊢
  have HY := Lib.hid hy
  have e0 : w4.cell? ⟨B, 0, none⟩ = some (.int .i64 0) := by rw [Lib.cell_of_heap hB4]; rfl
  have e1 : w4.cell? ⟨B, 1, none⟩ = some (.int .i64 0) := by rw [Lib.cell_of_heap hB4]; rfl
  have e2 : w4.cell? ⟨B, 2, none⟩ = some (.string ⟨#[]⟩) := by rw [Lib.cell_of_heap hB4]; rfl
  have e3 : w4.cell? ⟨B, 3, none⟩ = some (.slice none 0 0) := by rw [Lib.cell_of_heap hB4]; rfl
  have e4 : w4.cell? ⟨B, 4, none⟩ = some (.slice none 0 0) := by rw [Lib.cell_of_heap hB4]; rfl
  have e5 : w4.cell? ⟨B, 5, none⟩ = some (.slice none 0 0) := by rw [Lib.cell_of_heap hB4]; rfl
  have f0 : w4.frozen? ⟨B, 0, none⟩ = false := Lib.frozen_of_heap hB4 0
  have f1 : w4.frozen? ⟨B, 1, none⟩ = false := Lib.frozen_of_heap hB4 1
  have f2 : w4.frozen? ⟨B, 2, none⟩ = false := Lib.frozen_of_heap hB4 2
  have f3 : w4.frozen? ⟨B, 3, none⟩ = false := Lib.frozen_of_heap hB4 3
  have f4 : w4.frozen? ⟨B, 4, none⟩ = false := Lib.frozen_of_heap hB4 4
  have f5 : w4.frozen? ⟨B, 5, none⟩ = false := Lib.frozen_of_heap hB4 5
  obtain ⟨wF, hwF⟩ : ∃ wF, (((((w4.setCell ⟨B, 0, none⟩ (.int .i64 y.k)).setCell ⟨B, 1, none⟩ (.int .i64 y.n)).setCell ⟨B, 2, none⟩ (.string y.s)).setCell ⟨B, 3, none⟩ (.slice b1 m1 p1)).setCell ⟨B, 4, none⟩ (.slice b2 m2 p2)).setCell ⟨B, 5, none⟩ (.slice b3 m3 p3) = wF := ⟨_, rfl⟩
  have hkF : Keep (fun j => j = B) w4 wF := by
    rw [← hwF]
    exact ((((((Keep.refl (fun j => j = B) w4).setCell rfl 0 _).setCell rfl 1 _).setCell rfl 2 _).setCell rfl 3 _).setCell rfl 4 _).setCell rfl 5 _
  have hBF : wF.heap[B]? = some (.cells #[.int .i64 y.k, .int .i64 y.n, .string y.s, .slice b1 m1 p1, .slice b2 m2 p2, .slice b3 m3 p3] 55 (0, 0)) := by
    rw [← hwF]
    exact Dt.bset (Dt.bset (Dt.bset (Dt.bset (Dt.bset (Dt.bset hB4)))))
  have z0 : wF.cell? ⟨B, 0, none⟩ = some (.int .i64 y.k) := by rw [Lib.cell_of_heap hBF]; rfl
  have z1 : wF.cell? ⟨B, 1, none⟩ = some (.int .i64 y.n) := by rw [Lib.cell_of_heap hBF]; rfl
  have z2 : wF.cell? ⟨B, 2, none⟩ = some (.string y.s) := by rw [Lib.cell_of_heap hBF]; rfl
  have z3 : wF.cell? ⟨B, 3, none⟩ = some (.slice b1 m1 p1) := by rw [Lib.cell_of_heap hBF]; rfl
  have z4 : wF.cell? ⟨B, 4, none⟩ = some (.slice b2 m2 p2) := by rw [Lib.cell_of_heap hBF]; rfl
  have z5 : wF.cell? ⟨B, 5, none⟩ = some (.slice b3 m3 p3) := by rw [Lib.cell_of_heap hBF]; rfl
  have hs3 := HB3.out.size
  have HRF : Hid (Dt.Rep (fun j => w.heap.size ≤ j) wF y (.slice b1 m1 p1) (.slice b2 m2 p2) (.slice b3 m3 p3)) := Dt.Rep.mono (fun j hj _ => by have := HS.out; omega) y (Dt.Rep.keep hkF (fun j hj _ e => by have := HS.out; omega) y hr4)
  have HBF : Hid (Below w.heap.size w wF) := ((HB2.out.trans (HB3.out.mono HB2.out.size)).trans (hb4.mono (by have := HS.out; omega))).trans (hkF.to_below (fun j e => by have := HS.out; omega) (by have := HS.out; have := hb4.size; omega))
  clear hB4 hkF hBF hr4 hb4 hs3 hy
  go_wp2
  exact bodyPost_ret (v := .agg #[.int .i64 y.k, .int .i64 y.n, .string y.s, .slice b1 m1 p1, .slice b2 m2 p2, .slice b3 m3 p3]) (by simp [results, Try.results33, go_sem, hBe, z0, z1, z2, z3, z4, z5]) rfl (by rw [← HY.out]; exact ⟨⟨_, _, _, rfl, HRF.out⟩, HBF.out⟩)
end Go.Proofs.Ytlckjphnbfahgaa
namespace Go.Proofs.Ytlckjphnbfahgaa
open Go.RowKit
set_option maxRecDepth 100000 in
set_option maxHeartbeats 2000000 in
theorem SymbolR2_any (s : ByteArray) (w : World) (hs : s.size ≤ 140737488355328) :
    Calls Try.prog 34 #[.string s] w fun e w' => e = .returned (.bool (Lx.symbol s.data.toList)) ∧ w = w' := by
  obtain ⟨R, hR⟩ : ∃ R, Lx.symbol s.data.toList = R := ⟨_, rfl⟩
  rw [hR]
  unfold Lx.symbol at hR
  rw [← ByteArray.toList_eq] at hR
  cases h1 : (s.toList == [43])
  case true =>
    have HF : Hid (R = true) := by show _ = _; rw [← hR, h1]; rfl
    clear hR
    go_enter Try.func34, Try.ntmps34
    go_wp2
    go_ret
    exact ⟨by rw [HF.out]; rfl, rfl⟩
  cases h2 : (s.toList == [45])
  case true =>
    have HF : Hid (R = true) := by show _ = _; rw [← hR, h1, h2]; rfl
    clear hR
    go_enter Try.func34, Try.ntmps34
    go_wp2
    go_ret
    exact ⟨by rw [HF.out]; rfl, rfl⟩
  cases h3 : (s.toList == [46, 46, 46])
  case true =>
    have HF : Hid (R = true) := by show _ = _; rw [← hR, h1, h2, h3]; rfl
    clear hR
    go_enter Try.func34, Try.ntmps34
    go_wp2
    go_ret
    exact ⟨by rw [HF.out]; rfl, rfl⟩
  rw [h1, h2, h3, ByteArray.toList_eq] at hR
  simp only [Bool.false_or] at hR
  have hlen : s.data.toList.length = s.size := Fx.size_toList s
  by_cases h0 : s.size = 0
  · have h0i : (s.size : Int) < 1 := by omega
    have HF : Hid (R = false) := by
      show _ = _
      rw [← hR, show s.data.toList = [] from List.length_eq_zero_iff.1 (by omega)]; rfl
    clear hR
    go_enter Try.func34, Try.ntmps34
    go_wp2
    go_ret
    exact ⟨by rw [HF.out]; rfl, rfl⟩
  have h0i : ¬ (s.size : Int) < 1 := by omega
  have hpos : 0 < s.size := by omega
  by_cases h32 : 32 < s.size
  · have h32i : 32 < (s.size : Int) := by omega
    have HF : Hid (R = false) := by
      show _ = _
      rw [← hR, hlen, decide_eq_false (show ¬ s.size ≤ 32 by omega)]; simp
    clear hR
    go_enter Try.func34, Try.ntmps34
    go_wp2
    go_ret
    exact ⟨by rw [HF.out]; rfl, rfl⟩
  have h32i : ¬ 32 < (s.size : Int) := by omega
  have hcons : s.data.toList = s[0] :: Lx.tl s 1 := by
    have := Lx.tl_cons s 0 hpos
    rw [← this]; unfold Lx.tl; simp
  have hR2 : R = (Lx.begins s[0] && (Lx.goes s[0] && (Lx.tl s 1).all Lx.goes)) := by
    rw [← hR, hlen, decide_eq_true (show s.size ≤ 32 by omega), hcons]
    simp
  have hl := letterR_any s[0] w
  cases hb : Lx.begins s[0]
  · have HF : Hid (R = false) := by show _ = _; rw [hR2, hb]; rfl
    rw [hb] at hl
    clear hR hR2 hcons hlen
    go_enter Try.func34, Try.ntmps34
    go_wp2_with fail
    refine hl.mono ?_
    rintro e w1 ⟨rfl, rfl⟩
    go_wp2
    go_ret
    exact ⟨by rw [HF.out]; rfl, rfl⟩
  have H1 : Hid (R = (Lx.tl s 1).all Lx.goes) := by
    show _ = _; rw [hR2, hb, Lx.goes_more, hb]; simp
  rw [hb] at hl
  clear hR hR2 hcons hlen
  go_enter Try.func34, Try.ntmps34
  go_wp2_with fail
  refine hl.mono ?_
  rintro e w1 ⟨rfl, rfl⟩
  clear hl
  go_wp2_with fail
  go_loop [3] (fun vi => ∃ k : Nat, vi = .int .i64 k ∧ 1 ≤ k ∧ k ≤ s.size ∧ Hid (R = (Lx.tl s k).all Lx.goes)) (fun vi => s.size - (intOf vi).toNat)
  case atStart => exact ⟨1, rfl, by omega, by omega, H1⟩
  case round =>
    obtain ⟨k, rfl, hk1, hk, HR⟩ := hrel
    by_cases hlt : k < s.size
    case neg =>
      have hge : ¬ (k : Int) < (s.size : Int) := by omega
      have HE : Hid (R = true) := by show _ = _; rw [HR.out, Lx.tl_nil s k (by omega)]; rfl
      go_wp2
      go_ret
      exact ⟨by rw [HE.out]; rfl, rfl⟩
    have hlti : (k : Int) < (s.size : Int) := by omega
    have hr := HR.out
    rw [Lx.tl_cons s k hlt, List.all_cons, Lx.goes_more] at hr
    have hl2 := letterR_any s[k] w
    have hi2 := isInR_any s[k] Lx.moreB w (by decide)
    cases hb2 : Lx.begins s[k]
    · rw [hb2] at hl2 hr
      cases hm : Lx.moreB.data.toList.contains s[k]
      · rw [hm] at hi2 hr
        have HE : Hid (R = false) := hr
        clear hr HR hb2 hm
        go_wp2_with fail
        refine hl2.mono ?_
        rintro e w1 ⟨rfl, rfl⟩
        go_wp2_with fail
        refine hi2.mono ?_
        rintro e w1 ⟨rfl, rfl⟩
        go_wp2
        go_ret
        exact ⟨by rw [HE.out]; rfl, rfl⟩
      · rw [hm] at hi2 hr
        have HN : Hid (R = (Lx.tl s (k + 1)).all Lx.goes) := by show _ = _; rw [hr]; simp
        clear hr HR hb2 hm
        go_wp2_with fail
        refine hl2.mono ?_
        rintro e w1 ⟨rfl, rfl⟩
        go_wp2_with fail
        refine hi2.mono ?_
        rintro e w1 ⟨rfl, rfl⟩
        go_wp2
        go_round
        case rel => exact ⟨k + 1, by go_num, by omega, by omega, HN⟩
        case measure => simp [intOf]; omega
    · rw [hb2] at hl2 hr
      have HN : Hid (R = (Lx.tl s (k + 1)).all Lx.goes) := by show _ = _; rw [hr]; simp
      clear hr HR hb2
      go_wp2_with fail
      refine hl2.mono ?_
      rintro e w1 ⟨rfl, rfl⟩
      go_wp2
      go_round
      case rel => exact ⟨k + 1, by go_num, by omega, by omega, HN⟩
      case measure => simp [intOf]; omega
end Go.Proofs.Ytlckjphnbfahgaa
namespace Go.Proofs.Ytlckjphnbfahgaa
open Go.RowKit
attribute [local go_sem] Oper.semAt_some
namespace Cd
theorem dr {w w' : World} (h : Below w.drew.heap.size w.drew w') : Below w.heap.size w w' := ((Below.refl _ w).drew).trans h
theorem any_take {l : List Dt.D} {d : Dt.D} {k : Nat} : ((l.take k).any fun y => Dt.sameD y d) = true ↔ ∃ i, ∃ h : i < l.length, i < k ∧ Dt.sameD d l[i] = true := by
  rw [List.any_eq_true]
  constructor
  · rintro ⟨y, hy, h⟩
    obtain ⟨i, hi, rfl⟩ := List.getElem_of_mem hy
    rw [List.length_take] at hi
    refine ⟨i, by omega, by omega, ?_⟩
    rw [List.getElem_take] at h
    rw [Dt.sameD_comm]
    exact h
  · rintro ⟨i, hi, hk, h⟩
    refine ⟨l[i], ?_, by rw [Dt.sameD_comm]; exact h⟩
    have hlt : i < (l.take k).length := by rw [List.length_take]; omega
    have e : (l.take k)[i] = l[i] := List.getElem_take
    rw [← e]
    exact List.getElem_mem hlt
theorem cont_take {l : List ByteArray} {s : ByteArray} {k : Nat} : (l.take k).contains s = true ↔ ∃ i, ∃ h : i < l.length, i < k ∧ s = l[i] := by
  rw [List.contains_iff_mem]
  constructor
  · intro hy
    obtain ⟨i, hi, h⟩ := List.getElem_of_mem hy
    rw [List.length_take] at hi
    rw [List.getElem_take] at h
    exact ⟨i, by omega, by omega, h.symm⟩
  · rintro ⟨i, hi, hk, rfl⟩
    have hlt : i < (l.take k).length := by rw [List.length_take]; omega
    have e : (l.take k)[i] = l[i] := List.getElem_take
    rw [← e]
    exact List.getElem_mem hlt
end Cd
set_option maxRecDepth 100000 in
set_option maxHeartbeats 16000000 in
theorem rCheck09_any {F : Nat → Prop} (p : Cd.Prog) (vc vk vn : Value) (w : World) (hp : Cd.PRep F w p vc vk vn) (hw : Cd.PWf p) :
    Calls Try.prog 12 #[.agg #[vc, vk, vn]] w fun e w' => e = .returned (.int .i64 (Cd.checkP p)) ∧ Below w.heap.size w w' := by
  obtain ⟨a1, c1, a2, c2, a3, c3, rfl, rfl, rfl⟩ := hp.forms
  obtain ⟨R, hR⟩ : ∃ R, R = Cd.checkP p := ⟨_, rfl⟩
  rw [← hR]
  obtain ⟨w1, hw1⟩ : ∃ w1, w.alloc (.cells #[.slice a1 p.codes.length c1, .slice a2 p.consts.length c2, .slice a3 p.names.length c3] 26) = w1 := ⟨_, rfl⟩
  obtain ⟨hb1, hs1, hbp⟩ := Cd.boxP hw1
  obtain ⟨p0, p1, p2⟩ := hbp w1 (Below.refl _ _)
  have HP := Lib.hid hp
  have HW := Lib.hid hw
  have HNS := Lib.hid hw.wn
  have HB1 := Lib.hid hb1
  have HS1 := Lib.hid hs1
  have HBP := Lib.hid hbp
  have HR := Lib.hid hR
  clear hp hw hb1 hs1 hbp hR
  by_cases l0 : p.codes.length = 0
  · have l0' : decide ((p.codes.length : Int) < 1) = true := decide_eq_true (by omega)
    have HE : Hid (R = 90) := by show _ = _; rw [HR.out]; exact Cd.check_far (.inl l0)
    clear HR l0
    go_enter Try.func12, Try.ntmps12
    go_wp2
    go_ret
    exact ⟨by rw [HE.out]; rfl, HB1.out⟩
  have l0' : decide ((p.codes.length : Int) < 1) = false := decide_eq_false (by omega)
  by_cases l1 : 1024 < p.codes.length
  · have l1' : decide ((1024 : Int) < (p.codes.length : Int)) = true := decide_eq_true (by omega)
    have HE : Hid (R = 90) := by show _ = _; rw [HR.out]; exact Cd.check_far (.inr (.inl l1))
    clear HR l0 l1
    go_enter Try.func12, Try.ntmps12
    go_wp2
    go_ret
    exact ⟨by rw [HE.out]; rfl, HB1.out⟩
  have l1' : decide ((1024 : Int) < (p.codes.length : Int)) = false := decide_eq_false (by omega)
  by_cases l2 : 1024 < p.consts.length
  · have l2' : decide ((1024 : Int) < (p.consts.length : Int)) = true := decide_eq_true (by omega)
    have HE : Hid (R = 90) := by show _ = _; rw [HR.out]; exact Cd.check_far (.inr (.inr (.inl l2)))
    clear HR l0 l1 l2
    go_enter Try.func12, Try.ntmps12
    go_wp2
    go_ret
    exact ⟨by rw [HE.out]; rfl, HB1.out⟩
  have l2' : decide ((1024 : Int) < (p.consts.length : Int)) = false := decide_eq_false (by omega)
  by_cases l3 : 1024 < p.names.length
  · have l3' : decide ((1024 : Int) < (p.names.length : Int)) = true := decide_eq_true (by omega)
    have HE : Hid (R = 90) := by show _ = _; rw [HR.out]; exact Cd.check_far (.inr (.inr (.inr (.inl l3))))
    clear HR l0 l1 l2 l3
    go_enter Try.func12, Try.ntmps12
    go_wp2
    go_ret
    exact ⟨by rw [HE.out]; rfl, HB1.out⟩
  have l3' : decide ((1024 : Int) < (p.names.length : Int)) = false := decide_eq_false (by omega)
  have hpos : (0 : Int) < (p.codes.length : Int) := by omega
  obtain ⟨b, o, rfl, -, -, x0, -, x2, -⟩ := Cd.code_at (HP.out.below HB1.out).codes 0 (by omega)
  obtain ⟨d, hd⟩ : ∃ d, d = p.codes[0]'(by omega) := ⟨_, rfl⟩
  rw [← hd] at x0 x2
  simp only [Nat.zero_mul, Nat.add_zero] at x0 x2
  have hhd : p.codes.head? = some d := by
    rw [hd, List.head?_eq_getElem?, List.getElem?_eq_getElem (by omega)]
  by_cases h0 : d.params = 0
  case neg =>
    have h0' : (d.params != 0) = true := bne_iff_ne.2 h0
    have HE : Hid (R = 90) := by show _ = _; rw [HR.out]; exact Cd.check_far (.inr (.inr (.inr (.inr (by rw [hhd]; simp [h0])))))
    clear HR l0 l1 l2 l3 h0 hd hhd
    go_enter Try.func12, Try.ntmps12
    go_wp2
    go_ret
    exact ⟨by rw [HE.out]; rfl, HB1.out⟩
  have h0' : (d.params != 0) = false := bne_eq_false_iff_eq.2 h0
  by_cases h2 : d.caps = 0
  case neg =>
    have h2' : (d.caps != 0) = true := bne_iff_ne.2 h2
    have HE : Hid (R = 90) := by show _ = _; rw [HR.out]; exact Cd.check_far (.inr (.inr (.inr (.inr (by rw [hhd]; simp [h2])))))
    clear HR l0 l1 l2 l3 h0 h2 hd hhd
    go_enter Try.func12, Try.ntmps12
    go_wp2
    go_ret
    exact ⟨by rw [HE.out]; rfl, HB1.out⟩
  have h2' : (d.caps != 0) = false := bne_eq_false_iff_eq.2 h2
  have HFAR : Hid (¬ Cd.Far p) := by
    show ¬ _
    rintro (h | h | h | h | h)
    · exact l0 h
    · exact l1 h
    · exact l2 h
    · exact l3 h
    · rw [hhd] at h
      simp [h0, h2] at h
  have hl1 : p.codes.length ≤ 1024 := by omega
  have hl2 : p.consts.length ≤ 1024 := by omega
  have hl3 : p.names.length ≤ 1024 := by omega
  clear l0 l1 l2 l3 h0 h2 hd hhd
  go_enter Try.func12, Try.ntmps12
  go_wp2
  clear l0' l1' l2' l3' h0' h2' x0 x2 p0 p1 p2 hw1
  go_loopw [3] (fun v wr => ∃ k : Nat, v = .int .i64 k ∧ k ≤ p.consts.length ∧ Hid (∀ i, i < k → Cd.constOk p i = true) ∧ Hid (Below w1.heap.size w1 wr)) (fun v _ => p.consts.length - (intOf v).toNat)
  case atStart => exact ⟨0, rfl, by omega, fun i hi => by omega, Below.refl _ _⟩
  case round =>
    obtain ⟨k, rfl, hk, HK, HBR⟩ := hrel
    obtain ⟨p0, p1, p2⟩ := HBP.out _ HBR.out
    by_cases hlt : k < p.consts.length
    · have hlti : (k : Int) < (p.consts.length : Int) := by omega
      have hk0 : (0 : Int) ≤ (k : Int) := by omega
      have HB : Hid (Below w.heap.size w wr) := HB1.out.trans (HBR.out.mono HB1.out.size)
      obtain ⟨b, o, vm, vl, vt, rfl, hbl, ⟨x0, x1, x2, x3, x4, x5⟩, hrep⟩ := Cd.const_at (HP.out.below HB.out).consts k hlt
      have hwf := Cd.wfs_at HW.out.wk k hlt
      have hok := Cd.constOk_at hlt
      have hno := fun h => Cd.check_const k hlt h
      have HXK : Hid (∃ h : k < p.consts.length, True) := ⟨hlt, trivial⟩
      obtain ⟨x, hx⟩ : ∃ x, x = p.consts[k] := ⟨_, rfl⟩
      have HXE := Lib.hid hx
      rw [← hx] at x0 x1 x2 hrep hwf hok
      obtain ⟨⟨am, cm, rfl, _⟩, ⟨al, c_l, rfl, _⟩, ⟨at_, ct, rfl, _⟩⟩ := (Dt.rep_iff _ _ x vm vl vt).1 hrep
      have HKP : Hid (∀ W, Below wr.heap.size wr W → W.cell? ⟨w.heap.size, 1, none⟩ = some (.slice (some ⟨b, o, none⟩) p.consts.length c2) ∧ W.cell? ⟨b, o + k * 6, none⟩ = some (.int .i64 x.k) ∧ W.cell? ⟨b, o + k * 6 + 1, none⟩ = some (.int .i64 x.n) ∧ W.cell? ⟨b, o + k * 6 + 2, none⟩ = some (.string x.s) ∧ W.cell? ⟨b, o + k * 6 + 3, none⟩ = some (.slice am x.m.length cm) ∧ W.cell? ⟨b, o + k * 6 + 4, none⟩ = some (.slice al x.l.length c_l) ∧ W.cell? ⟨b, o + k * 6 + 5, none⟩ = some (.slice at_ x.t.length ct)) := fun W hW => by
        have hc : ∀ i, W.cell? ⟨b, i, none⟩ = wr.cell? ⟨b, i, none⟩ := fun i => hW.cell (p := ⟨b, i, none⟩) hbl
        exact ⟨(HBP.out W (HBR.out.trans (hW.mono HBR.out.size))).2.1, (hc _).trans x0, (hc _).trans x1, (hc _).trans x2, (hc _).trans x3, (hc _).trans x4, (hc _).trans x5⟩
      obtain ⟨C, hC⟩ : ∃ C, Dt.check x = C := ⟨_, rfl⟩
      have HCK : Hid (∀ W, Below wr.heap.size wr W → Calls Try.prog 31 #[.agg #[.int .i64 x.k, .int .i64 x.n, .string x.s, .slice am x.m.length cm, .slice al x.l.length c_l, .slice at_ x.t.length ct]] W fun e w' => e = .returned (.int .i64 C) ∧ Below W.heap.size W w') := fun W hW => by
        have := rCheck_any x _ _ _ W hwf (hrep.below hW)
        rw [hC] at this
        exact this
      have HPL : Hid (C = 0 → ∀ W, Below wr.heap.size wr W → Calls Try.prog 33 #[.agg #[.int .i64 x.k, .int .i64 x.n, .string x.s, .slice am x.m.length cm, .slice al x.l.length c_l, .slice at_ x.t.length ct]] W fun e w' => Dt.Fresh W.heap.size w' (Dt.strip false x) e ∧ Below W.heap.size W w') := fun h W hW => rPlain_ok x _ _ _ W hwf (hrep.below hW) (hC.trans h)
      obtain ⟨PL, hPL⟩ : ∃ PL, Cd.plainD x = PL := ⟨_, rfl⟩
      obtain ⟨y, hy⟩ : ∃ y, y = Dt.strip false x := ⟨_, rfl⟩
      rw [← hy] at HPL
      have HSM : Hid (C = 0 → ∀ W (um ul ut : Value), Below wr.heap.size wr W → Dt.Rep (fun _ => True) W y um ul ut → Calls Try.prog 32 #[.agg #[.int .i64 x.k, .int .i64 x.n, .string x.s, .slice am x.m.length cm, .slice al x.l.length c_l, .slice at_ x.t.length ct], .agg #[.int .i64 y.k, .int .i64 y.n, .string y.s, um, ul, ut]] W fun e w' => e = .returned (.bool PL) ∧ Below W.heap.size W w') := fun h W um ul ut hW hr => by
        have := rSame_any x y _ _ _ um ul ut W hwf (by rw [hy]; exact Dt.strip_wf x hwf) (hrep.below hW) hr
        rw [hy, Dt.same_plain (hC.trans h), hPL] at this
        rw [hy]
        exact this
      have HCP : Hid (C ≠ 0 → PL = false) := fun h => by
        rw [← hPL]
        unfold Cd.plainD
        rw [hC, decide_eq_false h]
        rfl
      rw [hPL] at hok
      obtain ⟨A, hA⟩ : ∃ A, ((p.consts.take k).any fun y => Dt.sameD y x) = A := ⟨_, rfl⟩
      rw [hA] at hok
      have HA := Lib.hid hA
      have HOK := Lib.hid hok
      have HNO := Lib.hid hno
      have HS0 := HKP.out _ ((Below.refl _ wr).drew)
      have HWFX := Lib.hid hwf
      have HREP := Lib.hid hrep
      have HBL := Lib.hid hbl
      clear hx hwf hok hno hC hPL hy hA hrep
      by_cases hc0 : C = 0
      case neg =>
        have hcb : (C != 0) = true := bne_iff_ne.2 hc0
        have HE : Hid (R = 90) := by show _ = _; rw [HR.out]; exact HNO.out (by rw [HOK.out, HCP.out hc0]; rfl)
        clear HR HNO HOK
        go_wp2_with fail
        clear x0 x1 x2 x3 x4 x5 p0 p1 p2
        refine wp_region_noPanic ?_
        refine wp_region_held_drew (S := fun W => W.cell? ⟨w.heap.size, 1, none⟩ = some (.slice (some ⟨b, o, none⟩) p.consts.length c2) ∧ W.cell? ⟨b, o + k * 6, none⟩ = some (.int .i64 x.k) ∧ W.cell? ⟨b, o + k * 6 + 1, none⟩ = some (.int .i64 x.n) ∧ W.cell? ⟨b, o + k * 6 + 2, none⟩ = some (.string x.s) ∧ W.cell? ⟨b, o + k * 6 + 3, none⟩ = some (.slice am x.m.length cm) ∧ W.cell? ⟨b, o + k * 6 + 4, none⟩ = some (.slice al x.l.length c_l) ∧ W.cell? ⟨b, o + k * 6 + 5, none⟩ = some (.slice at_ x.t.length ct)) (by kernel_rfl) HS0 (fun hHeld => ?_)
        refine wpAnyH_take (i := 0) (oi := ⟨_, _, _, _, _, _⟩) (v := ?_) rfl (by kernel_rfl) (by kernel_rfl) (by kernel_rfl) (fun _ _ _ h => h) (Or.inl ⟨by rfl, ?_⟩) (by assumption) ?_
        rotate_left
        · intro w hSw
          clear hSw
          go_simp
          try with_reducible rfl
        simp only [Act.put, List.setIfInBounds_toArray, List.set_cons_zero, List.set_cons_succ]
        refine wpAnyH_take (i := 2) (oi := ⟨_, _, _, _, _, _⟩) (v := ?_) rfl (by kernel_rfl) (by kernel_rfl) (by kernel_rfl) (fun _ _ _ h => h) (Or.inl ⟨by rfl, ?_⟩) (by assumption) ?_
        rotate_left
        · intro w hSw
          clear hSw
          go_simp
          try with_reducible rfl
        simp only [Act.put, List.setIfInBounds_toArray, List.set_cons_zero, List.set_cons_succ]
        refine wpAnyH_take (i := 1) (oi := ⟨_, _, _, _, _, _⟩) (v := ?_) rfl (by kernel_rfl) (by kernel_rfl) (by kernel_rfl) (fun _ _ _ h => h) (Or.inl ⟨by rfl, ?_⟩) (by assumption) ?_
        rotate_left
        · intro w hSw
          obtain ⟨s0, s1, s2, s3, s4, s5, s6⟩ := hSw
          go_simp
          try with_reducible rfl
        simp only [Act.put, List.setIfInBounds_toArray, List.set_cons_zero, List.set_cons_succ]
        refine wpAnyH_take (i := 3) (oi := ⟨_, _, _, _, _, _⟩) (v := ?_) rfl (by kernel_rfl) (by kernel_rfl) (by kernel_rfl) (fun _ _ _ h => h) (Or.inl ⟨by rfl, ?_⟩) (by assumption) ?_
        rotate_left
        · intro w hSw
          clear hSw
          go_simp
          try with_reducible rfl
        simp only [Act.put, List.setIfInBounds_toArray, List.set_cons_zero, List.set_cons_succ]
        refine wpAnyH_take (i := 4) (oi := ⟨_, _, _, _, _, _⟩) (v := ?_) rfl (by kernel_rfl) (by kernel_rfl) (by kernel_rfl) (fun _ _ _ h => h) (Or.inl ⟨by rfl, ?_⟩) (by assumption) ?_
        rotate_left
        · intro w hSw
          obtain ⟨s0, s1, s2, s3, s4, s5, s6⟩ := hSw
          go_simp
          try with_reducible rfl
        simp only [Act.put, List.setIfInBounds_toArray, List.set_cons_zero, List.set_cons_succ]
        refine wpAnyH_ready (rs := [5]) (by kernel_rfl) (by simp) ?_
        refine AllReadyH.cons (o := ⟨_, _, _, _, _, _⟩) rfl (fun K hK => ?_) AllReadyH.nil
        go_simp
        refine (HCK.out _ ((Below.refl _ _).drew)).mono ?_
        rintro e w7 ⟨rfl, hb7⟩
        have HB7 : Hid (Below wr.heap.size wr w7) := Cd.dr hb7
        clear hb7
        dsimp only
        refine hK.out _ _ ?_ (fun hHeld => ?_)
        · exact HKP.out _ HB7.out
        clear hK K
        try simp only [Act.put, List.setIfInBounds_toArray, List.set_cons_zero, List.set_cons_succ]
        refine wpAnyH_take (i := 6) (oi := ⟨_, _, _, _, _, _⟩) (v := .bool true) rfl (by kernel_rfl) (by kernel_rfl) (by kernel_rfl) (fun _ _ _ h => h) (Or.inl ⟨by rfl, ?_⟩) (by assumption) ?_
        · intro w hSw
          clear hSw
          go_simp
          try with_reducible rfl
        simp only [Act.put, List.setIfInBounds_toArray, List.set_cons_zero, List.set_cons_succ]
        refine wpAnyH_take (i := 7) (oi := ⟨_, _, _, _, _, _⟩) (v := .bool true) rfl (by kernel_rfl) (by kernel_rfl) (by kernel_rfl) (fun _ _ _ h => h) (Or.inl ⟨by rfl, ?_⟩) (by assumption) ?_
        · intro w hSw
          clear hSw
          go_simp
          try with_reducible rfl
        simp only [Act.put, List.setIfInBounds_toArray, List.set_cons_zero, List.set_cons_succ]
        refine wpAnyH_take (i := 8) (oi := ⟨_, _, _, _, _, _⟩) (v := undef) rfl (by kernel_rfl) (by kernel_rfl) (by kernel_rfl) (fun _ _ _ h => h) (Or.inr ⟨by rfl, rfl⟩) (by assumption) ?_
        simp only [Act.put, List.setIfInBounds_toArray, List.set_cons_zero, List.set_cons_succ]
        refine wpAnyH_take (i := 9) (oi := ⟨_, _, _, _, _, _⟩) (v := undef) rfl (by kernel_rfl) (by kernel_rfl) (by kernel_rfl) (fun _ _ _ h => h) (Or.inr ⟨by rfl, rfl⟩) (by assumption) ?_
        simp only [Act.put, List.setIfInBounds_toArray, List.set_cons_zero, List.set_cons_succ]
        refine wpAnyH_take (i := 10) (oi := ⟨_, _, _, _, _, _⟩) (v := undef) rfl (by kernel_rfl) (by kernel_rfl) (by kernel_rfl) (fun _ _ _ h => h) (Or.inr ⟨by rfl, rfl⟩) (by assumption) ?_
        simp only [Act.put, List.setIfInBounds_toArray, List.set_cons_zero, List.set_cons_succ]
        refine wpAnyH_take (i := 11) (oi := ⟨_, _, _, _, _, _⟩) (v := undef) rfl (by kernel_rfl) (by kernel_rfl) (by kernel_rfl) (fun _ _ _ h => h) (Or.inr ⟨by rfl, rfl⟩) (by assumption) ?_
        simp only [Act.put, List.setIfInBounds_toArray, List.set_cons_zero, List.set_cons_succ]
        refine wpAnyH_take (i := 12) (oi := ⟨_, _, _, _, _, _⟩) (v := undef) rfl (by kernel_rfl) (by kernel_rfl) (by kernel_rfl) (fun _ _ _ h => h) (Or.inr ⟨by rfl, rfl⟩) (by assumption) ?_
        simp only [Act.put, List.setIfInBounds_toArray, List.set_cons_zero, List.set_cons_succ]
        refine wpAnyH_take (i := 13) (oi := ⟨_, _, _, _, _, _⟩) (v := undef) rfl (by kernel_rfl) (by kernel_rfl) (by kernel_rfl) (fun _ _ _ h => h) (Or.inr ⟨by rfl, rfl⟩) (by assumption) ?_
        simp only [Act.put, List.setIfInBounds_toArray, List.set_cons_zero, List.set_cons_succ]
        refine wpAnyH_take (i := 14) (oi := ⟨_, _, _, _, _, _⟩) (v := undef) rfl (by kernel_rfl) (by kernel_rfl) (by kernel_rfl) (fun _ _ _ h => h) (Or.inr ⟨by rfl, rfl⟩) (by assumption) ?_
        simp only [Act.put, List.setIfInBounds_toArray, List.set_cons_zero, List.set_cons_succ]
        refine wpAnyH_take (i := 15) (oi := ⟨_, _, _, _, _, _⟩) (v := undef) rfl (by kernel_rfl) (by kernel_rfl) (by kernel_rfl) (fun _ _ _ h => h) (Or.inr ⟨by rfl, rfl⟩) (by assumption) ?_
        simp only [Act.put, List.setIfInBounds_toArray, List.set_cons_zero, List.set_cons_succ]
        refine wpAnyH_take (i := 16) (oi := ⟨_, _, _, _, _, _⟩) (v := undef) rfl (by kernel_rfl) (by kernel_rfl) (by kernel_rfl) (fun _ _ _ h => h) (Or.inr ⟨by rfl, rfl⟩) (by assumption) ?_
        simp only [Act.put, List.setIfInBounds_toArray, List.set_cons_zero, List.set_cons_succ]
        refine wpAnyH_take (i := 17) (oi := ⟨_, _, _, _, _, _⟩) (v := undef) rfl (by kernel_rfl) (by kernel_rfl) (by kernel_rfl) (fun _ _ _ h => h) (Or.inr ⟨by rfl, rfl⟩) (by assumption) ?_
        simp only [Act.put, List.setIfInBounds_toArray, List.set_cons_zero, List.set_cons_succ]
        refine wpAnyH_ready (rs := [18]) (by kernel_rfl) (by simp) ?_
        refine AllReadyH.cons (o := ⟨_, _, _, _, _, _⟩) rfl (fun K hK => ?_) AllReadyH.nil
        go_simp
        refine hK.out _ _ ?_ (fun hHeld => ?_)
        · exact HKP.out _ HB7.out
        clear hK K
        try simp only [Act.put, List.setIfInBounds_toArray, List.set_cons_zero, List.set_cons_succ]
        refine wpAnyH_ready (rs := [19]) (by kernel_rfl) (by simp) ?_
        refine AllReadyH.cons (o := ⟨_, _, _, _, _, _⟩) rfl (fun K hK => ?_) AllReadyH.nil
        go_simp
        refine hK.out _ _ ?_ (fun hHeld => ?_)
        · exact HKP.out _ HB7.out
        clear hK K
        try simp only [Act.put, List.setIfInBounds_toArray, List.set_cons_zero, List.set_cons_succ]
        refine wpAnyH_take (i := 20) (oi := ⟨_, _, _, _, _, _⟩) (v := undef) rfl (by kernel_rfl) (by kernel_rfl) (by kernel_rfl) (fun _ _ _ h => h) (Or.inr ⟨by rfl, rfl⟩) (by assumption) ?_
        simp only [Act.put, List.setIfInBounds_toArray, List.set_cons_zero, List.set_cons_succ]
        refine wpAnyH_take (i := 21) (oi := ⟨_, _, _, _, _, _⟩) (v := ?_) rfl (by kernel_rfl) (by kernel_rfl) (by kernel_rfl) (fun _ _ _ h => h) (Or.inl ⟨by rfl, ?_⟩) (by assumption) ?_
        rotate_left
        · intro w hSw
          clear hSw
          go_simp
          try with_reducible rfl
        simp only [Act.put, List.setIfInBounds_toArray, List.set_cons_zero, List.set_cons_succ]
        refine wpAnyH_done (by kernel_rfl) ?_ _
        refine NoPanic.normal ?_
        go_wp2
        go_ret
        exact ⟨by rw [HE.out]; rfl, HB.out.trans (HB7.out.mono HB.out.size)⟩
      subst hc0
      cases PL with
      | false =>
        have HE : Hid (R = 90) := by show _ = _; rw [HR.out]; exact HNO.out (by rw [HOK.out]; rfl)
        clear HR HNO HOK
        go_wp2_with fail
        clear x0 x1 x2 x3 x4 x5 p0 p1 p2
        refine wp_region_noPanic ?_
        refine wp_region_held_drew (S := fun W => W.cell? ⟨w.heap.size, 1, none⟩ = some (.slice (some ⟨b, o, none⟩) p.consts.length c2) ∧ W.cell? ⟨b, o + k * 6, none⟩ = some (.int .i64 x.k) ∧ W.cell? ⟨b, o + k * 6 + 1, none⟩ = some (.int .i64 x.n) ∧ W.cell? ⟨b, o + k * 6 + 2, none⟩ = some (.string x.s) ∧ W.cell? ⟨b, o + k * 6 + 3, none⟩ = some (.slice am x.m.length cm) ∧ W.cell? ⟨b, o + k * 6 + 4, none⟩ = some (.slice al x.l.length c_l) ∧ W.cell? ⟨b, o + k * 6 + 5, none⟩ = some (.slice at_ x.t.length ct)) (by kernel_rfl) HS0 (fun hHeld => ?_)
        refine wpAnyH_take (i := 0) (oi := ⟨_, _, _, _, _, _⟩) (v := ?_) rfl (by kernel_rfl) (by kernel_rfl) (by kernel_rfl) (fun _ _ _ h => h) (Or.inl ⟨by rfl, ?_⟩) (by assumption) ?_
        rotate_left
        · intro w hSw
          clear hSw
          go_simp
          try with_reducible rfl
        simp only [Act.put, List.setIfInBounds_toArray, List.set_cons_zero, List.set_cons_succ]
        refine wpAnyH_take (i := 2) (oi := ⟨_, _, _, _, _, _⟩) (v := ?_) rfl (by kernel_rfl) (by kernel_rfl) (by kernel_rfl) (fun _ _ _ h => h) (Or.inl ⟨by rfl, ?_⟩) (by assumption) ?_
        rotate_left
        · intro w hSw
          clear hSw
          go_simp
          try with_reducible rfl
        simp only [Act.put, List.setIfInBounds_toArray, List.set_cons_zero, List.set_cons_succ]
        refine wpAnyH_take (i := 1) (oi := ⟨_, _, _, _, _, _⟩) (v := ?_) rfl (by kernel_rfl) (by kernel_rfl) (by kernel_rfl) (fun _ _ _ h => h) (Or.inl ⟨by rfl, ?_⟩) (by assumption) ?_
        rotate_left
        · intro w hSw
          obtain ⟨s0, s1, s2, s3, s4, s5, s6⟩ := hSw
          go_simp
          try with_reducible rfl
        simp only [Act.put, List.setIfInBounds_toArray, List.set_cons_zero, List.set_cons_succ]
        refine wpAnyH_take (i := 3) (oi := ⟨_, _, _, _, _, _⟩) (v := ?_) rfl (by kernel_rfl) (by kernel_rfl) (by kernel_rfl) (fun _ _ _ h => h) (Or.inl ⟨by rfl, ?_⟩) (by assumption) ?_
        rotate_left
        · intro w hSw
          clear hSw
          go_simp
          try with_reducible rfl
        simp only [Act.put, List.setIfInBounds_toArray, List.set_cons_zero, List.set_cons_succ]
        refine wpAnyH_take (i := 4) (oi := ⟨_, _, _, _, _, _⟩) (v := ?_) rfl (by kernel_rfl) (by kernel_rfl) (by kernel_rfl) (fun _ _ _ h => h) (Or.inl ⟨by rfl, ?_⟩) (by assumption) ?_
        rotate_left
        · intro w hSw
          obtain ⟨s0, s1, s2, s3, s4, s5, s6⟩ := hSw
          go_simp
          try with_reducible rfl
        simp only [Act.put, List.setIfInBounds_toArray, List.set_cons_zero, List.set_cons_succ]
        refine wpAnyH_ready (rs := [5]) (by kernel_rfl) (by simp) ?_
        refine AllReadyH.cons (o := ⟨_, _, _, _, _, _⟩) rfl (fun K hK => ?_) AllReadyH.nil
        go_simp
        refine (HCK.out _ ((Below.refl _ _).drew)).mono ?_
        rintro e w7 ⟨rfl, hb7⟩
        have HB7 : Hid (Below wr.heap.size wr w7) := Cd.dr hb7
        clear hb7
        dsimp only
        refine hK.out _ _ ?_ (fun hHeld => ?_)
        · exact HKP.out _ HB7.out
        clear hK K
        try simp only [Act.put, List.setIfInBounds_toArray, List.set_cons_zero, List.set_cons_succ]
        refine wpAnyH_take (i := 6) (oi := ⟨_, _, _, _, _, _⟩) (v := .bool false) rfl (by kernel_rfl) (by kernel_rfl) (by kernel_rfl) (fun _ _ _ h => h) (Or.inl ⟨by rfl, ?_⟩) (by assumption) ?_
        · intro w hSw
          clear hSw
          go_simp
          try with_reducible rfl
        simp only [Act.put, List.setIfInBounds_toArray, List.set_cons_zero, List.set_cons_succ]
        refine wpAnyH_take (i := 7) (oi := ⟨_, _, _, _, _, _⟩) (v := .bool false) rfl (by kernel_rfl) (by kernel_rfl) (by kernel_rfl) (fun _ _ _ h => h) (Or.inl ⟨by rfl, ?_⟩) (by assumption) ?_
        · intro w hSw
          clear hSw
          go_simp
          try with_reducible rfl
        simp only [Act.put, List.setIfInBounds_toArray, List.set_cons_zero, List.set_cons_succ]
        refine wpAnyH_take (i := 8) (oi := ⟨_, _, _, _, _, _⟩) (v := ?_) rfl (by kernel_rfl) (by kernel_rfl) (by kernel_rfl) (fun _ _ _ h => h) (Or.inl ⟨by rfl, ?_⟩) (by assumption) ?_
        rotate_left
        · intro w hSw
          clear hSw
          go_simp
          try with_reducible rfl
        simp only [Act.put, List.setIfInBounds_toArray, List.set_cons_zero, List.set_cons_succ]
        refine wpAnyH_take (i := 10) (oi := ⟨_, _, _, _, _, _⟩) (v := ?_) rfl (by kernel_rfl) (by kernel_rfl) (by kernel_rfl) (fun _ _ _ h => h) (Or.inl ⟨by rfl, ?_⟩) (by assumption) ?_
        rotate_left
        · intro w hSw
          clear hSw
          go_simp
          try with_reducible rfl
        simp only [Act.put, List.setIfInBounds_toArray, List.set_cons_zero, List.set_cons_succ]
        refine wpAnyH_take (i := 13) (oi := ⟨_, _, _, _, _, _⟩) (v := ?_) rfl (by kernel_rfl) (by kernel_rfl) (by kernel_rfl) (fun _ _ _ h => h) (Or.inl ⟨by rfl, ?_⟩) (by assumption) ?_
        rotate_left
        · intro w hSw
          clear hSw
          go_simp
          try with_reducible rfl
        simp only [Act.put, List.setIfInBounds_toArray, List.set_cons_zero, List.set_cons_succ]
        refine wpAnyH_take (i := 15) (oi := ⟨_, _, _, _, _, _⟩) (v := ?_) rfl (by kernel_rfl) (by kernel_rfl) (by kernel_rfl) (fun _ _ _ h => h) (Or.inl ⟨by rfl, ?_⟩) (by assumption) ?_
        rotate_left
        · intro w hSw
          clear hSw
          go_simp
          try with_reducible rfl
        simp only [Act.put, List.setIfInBounds_toArray, List.set_cons_zero, List.set_cons_succ]
        refine wpAnyH_take (i := 9) (oi := ⟨_, _, _, _, _, _⟩) (v := ?_) rfl (by kernel_rfl) (by kernel_rfl) (by kernel_rfl) (fun _ _ _ h => h) (Or.inl ⟨by rfl, ?_⟩) (by assumption) ?_
        rotate_left
        · intro w hSw
          obtain ⟨s0, s1, s2, s3, s4, s5, s6⟩ := hSw
          go_simp
          try with_reducible rfl
        simp only [Act.put, List.setIfInBounds_toArray, List.set_cons_zero, List.set_cons_succ]
        refine wpAnyH_take (i := 14) (oi := ⟨_, _, _, _, _, _⟩) (v := ?_) rfl (by kernel_rfl) (by kernel_rfl) (by kernel_rfl) (fun _ _ _ h => h) (Or.inl ⟨by rfl, ?_⟩) (by assumption) ?_
        rotate_left
        · intro w hSw
          obtain ⟨s0, s1, s2, s3, s4, s5, s6⟩ := hSw
          go_simp
          try with_reducible rfl
        simp only [Act.put, List.setIfInBounds_toArray, List.set_cons_zero, List.set_cons_succ]
        refine wpAnyH_take (i := 11) (oi := ⟨_, _, _, _, _, _⟩) (v := ?_) rfl (by kernel_rfl) (by kernel_rfl) (by kernel_rfl) (fun _ _ _ h => h) (Or.inl ⟨by rfl, ?_⟩) (by assumption) ?_
        rotate_left
        · intro w hSw
          clear hSw
          go_simp
          try with_reducible rfl
        simp only [Act.put, List.setIfInBounds_toArray, List.set_cons_zero, List.set_cons_succ]
        refine wpAnyH_take (i := 16) (oi := ⟨_, _, _, _, _, _⟩) (v := ?_) rfl (by kernel_rfl) (by kernel_rfl) (by kernel_rfl) (fun _ _ _ h => h) (Or.inl ⟨by rfl, ?_⟩) (by assumption) ?_
        rotate_left
        · intro w hSw
          clear hSw
          go_simp
          try with_reducible rfl
        simp only [Act.put, List.setIfInBounds_toArray, List.set_cons_zero, List.set_cons_succ]
        refine wpAnyH_take (i := 12) (oi := ⟨_, _, _, _, _, _⟩) (v := ?_) rfl (by kernel_rfl) (by kernel_rfl) (by kernel_rfl) (fun _ _ _ h => h) (Or.inl ⟨by rfl, ?_⟩) (by assumption) ?_
        rotate_left
        · intro w hSw
          obtain ⟨s0, s1, s2, s3, s4, s5, s6⟩ := hSw
          go_simp
          try with_reducible rfl
        simp only [Act.put, List.setIfInBounds_toArray, List.set_cons_zero, List.set_cons_succ]
        refine wpAnyH_take (i := 17) (oi := ⟨_, _, _, _, _, _⟩) (v := ?_) rfl (by kernel_rfl) (by kernel_rfl) (by kernel_rfl) (fun _ _ _ h => h) (Or.inl ⟨by rfl, ?_⟩) (by assumption) ?_
        rotate_left
        · intro w hSw
          obtain ⟨s0, s1, s2, s3, s4, s5, s6⟩ := hSw
          go_simp
          try with_reducible rfl
        simp only [Act.put, List.setIfInBounds_toArray, List.set_cons_zero, List.set_cons_succ]
        refine wpAnyH_ready (rs := [18]) (by kernel_rfl) (by simp) ?_
        refine AllReadyH.cons (o := ⟨_, _, _, _, _, _⟩) rfl (fun K hK => ?_) AllReadyH.nil
        go_simp
        refine (HPL.out (by first | rfl | trivial) _ HB7.out).mono ?_
        rintro e w8 ⟨⟨um, ul, ut, rfl, hr8⟩, hb8⟩
        obtain ⟨b1, m1, q1, b2, m2, q2, b3, m3, q3, rfl, rfl, rfl⟩ := hr8.forms
        have HB8 : Hid (Below wr.heap.size wr w8) := HB7.out.trans (hb8.mono HB7.out.size)
        have HR8 : Hid (Dt.Rep (fun _ => True) w8 y (.slice b1 m1 q1) (.slice b2 m2 q2) (.slice b3 m3 q3)) := Dt.Rep.mono (fun _ _ _ => trivial) y hr8
        clear hr8 hb8
        dsimp only
        refine hK.out _ _ ?_ (fun hHeld => ?_)
        · exact HKP.out _ HB8.out
        clear hK K
        try simp only [Act.put, List.setIfInBounds_toArray, List.set_cons_zero, List.set_cons_succ]
        refine wpAnyH_ready (rs := [19]) (by kernel_rfl) (by simp) ?_
        refine AllReadyH.cons (o := ⟨_, _, _, _, _, _⟩) rfl (fun K hK => ?_) AllReadyH.nil
        go_simp
        refine (HSM.out (by first | rfl | trivial) _ _ _ _ HB8.out HR8.out).mono ?_
        rintro e w9 ⟨rfl, hb9⟩
        have HB9 : Hid (Below wr.heap.size wr w9) := HB8.out.trans (hb9.mono HB8.out.size)
        clear hb9
        dsimp only
        refine hK.out _ _ ?_ (fun hHeld => ?_)
        · exact HKP.out _ HB9.out
        clear hK K
        try simp only [Act.put, List.setIfInBounds_toArray, List.set_cons_zero, List.set_cons_succ]
        refine wpAnyH_take (i := 20) (oi := ⟨_, _, _, _, _, _⟩) (v := ?_) rfl (by kernel_rfl) (by kernel_rfl) (by kernel_rfl) (fun _ _ _ h => h) (Or.inl ⟨by rfl, ?_⟩) (by assumption) ?_
        rotate_left
        · intro w hSw
          clear hSw
          go_simp
          try with_reducible rfl
        simp only [Act.put, List.setIfInBounds_toArray, List.set_cons_zero, List.set_cons_succ]
        refine wpAnyH_take (i := 21) (oi := ⟨_, _, _, _, _, _⟩) (v := ?_) rfl (by kernel_rfl) (by kernel_rfl) (by kernel_rfl) (fun _ _ _ h => h) (Or.inl ⟨by rfl, ?_⟩) (by assumption) ?_
        rotate_left
        · intro w hSw
          clear hSw
          go_simp
          try with_reducible rfl
        simp only [Act.put, List.setIfInBounds_toArray, List.set_cons_zero, List.set_cons_succ]
        refine wpAnyH_done (by kernel_rfl) ?_ _
        refine NoPanic.normal ?_
        go_wp2
        go_ret
        exact ⟨by rw [HE.out]; rfl, HB.out.trans (HB9.out.mono HB.out.size)⟩
      | true =>
        go_wp2_with fail
        clear x0 x1 x2 x3 x4 x5 p0 p1 p2
        refine wp_region_noPanic ?_
        refine wp_region_held_drew (S := fun W => W.cell? ⟨w.heap.size, 1, none⟩ = some (.slice (some ⟨b, o, none⟩) p.consts.length c2) ∧ W.cell? ⟨b, o + k * 6, none⟩ = some (.int .i64 x.k) ∧ W.cell? ⟨b, o + k * 6 + 1, none⟩ = some (.int .i64 x.n) ∧ W.cell? ⟨b, o + k * 6 + 2, none⟩ = some (.string x.s) ∧ W.cell? ⟨b, o + k * 6 + 3, none⟩ = some (.slice am x.m.length cm) ∧ W.cell? ⟨b, o + k * 6 + 4, none⟩ = some (.slice al x.l.length c_l) ∧ W.cell? ⟨b, o + k * 6 + 5, none⟩ = some (.slice at_ x.t.length ct)) (by kernel_rfl) HS0 (fun hHeld => ?_)
        refine wpAnyH_take (i := 0) (oi := ⟨_, _, _, _, _, _⟩) (v := ?_) rfl (by kernel_rfl) (by kernel_rfl) (by kernel_rfl) (fun _ _ _ h => h) (Or.inl ⟨by rfl, ?_⟩) (by assumption) ?_
        rotate_left
        · intro w hSw
          clear hSw
          go_simp
          try with_reducible rfl
        simp only [Act.put, List.setIfInBounds_toArray, List.set_cons_zero, List.set_cons_succ]
        refine wpAnyH_take (i := 2) (oi := ⟨_, _, _, _, _, _⟩) (v := ?_) rfl (by kernel_rfl) (by kernel_rfl) (by kernel_rfl) (fun _ _ _ h => h) (Or.inl ⟨by rfl, ?_⟩) (by assumption) ?_
        rotate_left
        · intro w hSw
          clear hSw
          go_simp
          try with_reducible rfl
        simp only [Act.put, List.setIfInBounds_toArray, List.set_cons_zero, List.set_cons_succ]
        refine wpAnyH_take (i := 1) (oi := ⟨_, _, _, _, _, _⟩) (v := ?_) rfl (by kernel_rfl) (by kernel_rfl) (by kernel_rfl) (fun _ _ _ h => h) (Or.inl ⟨by rfl, ?_⟩) (by assumption) ?_
        rotate_left
        · intro w hSw
          obtain ⟨s0, s1, s2, s3, s4, s5, s6⟩ := hSw
          go_simp
          try with_reducible rfl
        simp only [Act.put, List.setIfInBounds_toArray, List.set_cons_zero, List.set_cons_succ]
        refine wpAnyH_take (i := 3) (oi := ⟨_, _, _, _, _, _⟩) (v := ?_) rfl (by kernel_rfl) (by kernel_rfl) (by kernel_rfl) (fun _ _ _ h => h) (Or.inl ⟨by rfl, ?_⟩) (by assumption) ?_
        rotate_left
        · intro w hSw
          clear hSw
          go_simp
          try with_reducible rfl
        simp only [Act.put, List.setIfInBounds_toArray, List.set_cons_zero, List.set_cons_succ]
        refine wpAnyH_take (i := 4) (oi := ⟨_, _, _, _, _, _⟩) (v := ?_) rfl (by kernel_rfl) (by kernel_rfl) (by kernel_rfl) (fun _ _ _ h => h) (Or.inl ⟨by rfl, ?_⟩) (by assumption) ?_
        rotate_left
        · intro w hSw
          obtain ⟨s0, s1, s2, s3, s4, s5, s6⟩ := hSw
          go_simp
          try with_reducible rfl
        simp only [Act.put, List.setIfInBounds_toArray, List.set_cons_zero, List.set_cons_succ]
        refine wpAnyH_ready (rs := [5]) (by kernel_rfl) (by simp) ?_
        refine AllReadyH.cons (o := ⟨_, _, _, _, _, _⟩) rfl (fun K hK => ?_) AllReadyH.nil
        go_simp
        refine (HCK.out _ ((Below.refl _ _).drew)).mono ?_
        rintro e w7 ⟨rfl, hb7⟩
        have HB7 : Hid (Below wr.heap.size wr w7) := Cd.dr hb7
        clear hb7
        dsimp only
        refine hK.out _ _ ?_ (fun hHeld => ?_)
        · exact HKP.out _ HB7.out
        clear hK K
        try simp only [Act.put, List.setIfInBounds_toArray, List.set_cons_zero, List.set_cons_succ]
        refine wpAnyH_take (i := 6) (oi := ⟨_, _, _, _, _, _⟩) (v := .bool false) rfl (by kernel_rfl) (by kernel_rfl) (by kernel_rfl) (fun _ _ _ h => h) (Or.inl ⟨by rfl, ?_⟩) (by assumption) ?_
        · intro w hSw
          clear hSw
          go_simp
          try with_reducible rfl
        simp only [Act.put, List.setIfInBounds_toArray, List.set_cons_zero, List.set_cons_succ]
        refine wpAnyH_take (i := 7) (oi := ⟨_, _, _, _, _, _⟩) (v := .bool false) rfl (by kernel_rfl) (by kernel_rfl) (by kernel_rfl) (fun _ _ _ h => h) (Or.inl ⟨by rfl, ?_⟩) (by assumption) ?_
        · intro w hSw
          clear hSw
          go_simp
          try with_reducible rfl
        simp only [Act.put, List.setIfInBounds_toArray, List.set_cons_zero, List.set_cons_succ]
        refine wpAnyH_take (i := 8) (oi := ⟨_, _, _, _, _, _⟩) (v := ?_) rfl (by kernel_rfl) (by kernel_rfl) (by kernel_rfl) (fun _ _ _ h => h) (Or.inl ⟨by rfl, ?_⟩) (by assumption) ?_
        rotate_left
        · intro w hSw
          clear hSw
          go_simp
          try with_reducible rfl
        simp only [Act.put, List.setIfInBounds_toArray, List.set_cons_zero, List.set_cons_succ]
        refine wpAnyH_take (i := 10) (oi := ⟨_, _, _, _, _, _⟩) (v := ?_) rfl (by kernel_rfl) (by kernel_rfl) (by kernel_rfl) (fun _ _ _ h => h) (Or.inl ⟨by rfl, ?_⟩) (by assumption) ?_
        rotate_left
        · intro w hSw
          clear hSw
          go_simp
          try with_reducible rfl
        simp only [Act.put, List.setIfInBounds_toArray, List.set_cons_zero, List.set_cons_succ]
        refine wpAnyH_take (i := 13) (oi := ⟨_, _, _, _, _, _⟩) (v := ?_) rfl (by kernel_rfl) (by kernel_rfl) (by kernel_rfl) (fun _ _ _ h => h) (Or.inl ⟨by rfl, ?_⟩) (by assumption) ?_
        rotate_left
        · intro w hSw
          clear hSw
          go_simp
          try with_reducible rfl
        simp only [Act.put, List.setIfInBounds_toArray, List.set_cons_zero, List.set_cons_succ]
        refine wpAnyH_take (i := 15) (oi := ⟨_, _, _, _, _, _⟩) (v := ?_) rfl (by kernel_rfl) (by kernel_rfl) (by kernel_rfl) (fun _ _ _ h => h) (Or.inl ⟨by rfl, ?_⟩) (by assumption) ?_
        rotate_left
        · intro w hSw
          clear hSw
          go_simp
          try with_reducible rfl
        simp only [Act.put, List.setIfInBounds_toArray, List.set_cons_zero, List.set_cons_succ]
        refine wpAnyH_take (i := 9) (oi := ⟨_, _, _, _, _, _⟩) (v := ?_) rfl (by kernel_rfl) (by kernel_rfl) (by kernel_rfl) (fun _ _ _ h => h) (Or.inl ⟨by rfl, ?_⟩) (by assumption) ?_
        rotate_left
        · intro w hSw
          obtain ⟨s0, s1, s2, s3, s4, s5, s6⟩ := hSw
          go_simp
          try with_reducible rfl
        simp only [Act.put, List.setIfInBounds_toArray, List.set_cons_zero, List.set_cons_succ]
        refine wpAnyH_take (i := 14) (oi := ⟨_, _, _, _, _, _⟩) (v := ?_) rfl (by kernel_rfl) (by kernel_rfl) (by kernel_rfl) (fun _ _ _ h => h) (Or.inl ⟨by rfl, ?_⟩) (by assumption) ?_
        rotate_left
        · intro w hSw
          obtain ⟨s0, s1, s2, s3, s4, s5, s6⟩ := hSw
          go_simp
          try with_reducible rfl
        simp only [Act.put, List.setIfInBounds_toArray, List.set_cons_zero, List.set_cons_succ]
        refine wpAnyH_take (i := 11) (oi := ⟨_, _, _, _, _, _⟩) (v := ?_) rfl (by kernel_rfl) (by kernel_rfl) (by kernel_rfl) (fun _ _ _ h => h) (Or.inl ⟨by rfl, ?_⟩) (by assumption) ?_
        rotate_left
        · intro w hSw
          clear hSw
          go_simp
          try with_reducible rfl
        simp only [Act.put, List.setIfInBounds_toArray, List.set_cons_zero, List.set_cons_succ]
        refine wpAnyH_take (i := 16) (oi := ⟨_, _, _, _, _, _⟩) (v := ?_) rfl (by kernel_rfl) (by kernel_rfl) (by kernel_rfl) (fun _ _ _ h => h) (Or.inl ⟨by rfl, ?_⟩) (by assumption) ?_
        rotate_left
        · intro w hSw
          clear hSw
          go_simp
          try with_reducible rfl
        simp only [Act.put, List.setIfInBounds_toArray, List.set_cons_zero, List.set_cons_succ]
        refine wpAnyH_take (i := 12) (oi := ⟨_, _, _, _, _, _⟩) (v := ?_) rfl (by kernel_rfl) (by kernel_rfl) (by kernel_rfl) (fun _ _ _ h => h) (Or.inl ⟨by rfl, ?_⟩) (by assumption) ?_
        rotate_left
        · intro w hSw
          obtain ⟨s0, s1, s2, s3, s4, s5, s6⟩ := hSw
          go_simp
          try with_reducible rfl
        simp only [Act.put, List.setIfInBounds_toArray, List.set_cons_zero, List.set_cons_succ]
        refine wpAnyH_take (i := 17) (oi := ⟨_, _, _, _, _, _⟩) (v := ?_) rfl (by kernel_rfl) (by kernel_rfl) (by kernel_rfl) (fun _ _ _ h => h) (Or.inl ⟨by rfl, ?_⟩) (by assumption) ?_
        rotate_left
        · intro w hSw
          obtain ⟨s0, s1, s2, s3, s4, s5, s6⟩ := hSw
          go_simp
          try with_reducible rfl
        simp only [Act.put, List.setIfInBounds_toArray, List.set_cons_zero, List.set_cons_succ]
        refine wpAnyH_ready (rs := [18]) (by kernel_rfl) (by simp) ?_
        refine AllReadyH.cons (o := ⟨_, _, _, _, _, _⟩) rfl (fun K hK => ?_) AllReadyH.nil
        go_simp
        refine (HPL.out (by first | rfl | trivial) _ HB7.out).mono ?_
        rintro e w8 ⟨⟨um, ul, ut, rfl, hr8⟩, hb8⟩
        obtain ⟨b1, m1, q1, b2, m2, q2, b3, m3, q3, rfl, rfl, rfl⟩ := hr8.forms
        have HB8 : Hid (Below wr.heap.size wr w8) := HB7.out.trans (hb8.mono HB7.out.size)
        have HR8 : Hid (Dt.Rep (fun _ => True) w8 y (.slice b1 m1 q1) (.slice b2 m2 q2) (.slice b3 m3 q3)) := Dt.Rep.mono (fun _ _ _ => trivial) y hr8
        clear hr8 hb8
        dsimp only
        refine hK.out _ _ ?_ (fun hHeld => ?_)
        · exact HKP.out _ HB8.out
        clear hK K
        try simp only [Act.put, List.setIfInBounds_toArray, List.set_cons_zero, List.set_cons_succ]
        refine wpAnyH_ready (rs := [19]) (by kernel_rfl) (by simp) ?_
        refine AllReadyH.cons (o := ⟨_, _, _, _, _, _⟩) rfl (fun K hK => ?_) AllReadyH.nil
        go_simp
        refine (HSM.out (by first | rfl | trivial) _ _ _ _ HB8.out HR8.out).mono ?_
        rintro e w9 ⟨rfl, hb9⟩
        have HB9 : Hid (Below wr.heap.size wr w9) := HB8.out.trans (hb9.mono HB8.out.size)
        clear hb9
        dsimp only
        refine hK.out _ _ ?_ (fun hHeld => ?_)
        · exact HKP.out _ HB9.out
        clear hK K
        try simp only [Act.put, List.setIfInBounds_toArray, List.set_cons_zero, List.set_cons_succ]
        refine wpAnyH_take (i := 20) (oi := ⟨_, _, _, _, _, _⟩) (v := ?_) rfl (by kernel_rfl) (by kernel_rfl) (by kernel_rfl) (fun _ _ _ h => h) (Or.inl ⟨by rfl, ?_⟩) (by assumption) ?_
        rotate_left
        · intro w hSw
          clear hSw
          go_simp
          try with_reducible rfl
        simp only [Act.put, List.setIfInBounds_toArray, List.set_cons_zero, List.set_cons_succ]
        refine wpAnyH_take (i := 21) (oi := ⟨_, _, _, _, _, _⟩) (v := ?_) rfl (by kernel_rfl) (by kernel_rfl) (by kernel_rfl) (fun _ _ _ h => h) (Or.inl ⟨by rfl, ?_⟩) (by assumption) ?_
        rotate_left
        · intro w hSw
          clear hSw
          go_simp
          try with_reducible rfl
        simp only [Act.put, List.setIfInBounds_toArray, List.set_cons_zero, List.set_cons_succ]
        refine wpAnyH_done (by kernel_rfl) ?_ _
        refine NoPanic.normal ?_
        have HB19 : Hid (Below w1.heap.size w1 w9) := HBR.out.trans (HB9.out.mono HBR.out.size)
        clear HB9 HB8 HB7 HR8 HCK HPL HSM HCP HKP HS0
        go_wp2
        go_loopw [4] (fun v wz => ∃ i : Nat, v = .int .i64 i ∧ i ≤ k ∧ Hid (∀ j, (hj : j < p.consts.length) → j < i → Dt.sameD x p.consts[j] = false) ∧ Hid (Below w1.heap.size w1 wz)) (fun v _ => k - (intOf v).toNat)
        case atStart => exact ⟨0, rfl, by omega, fun j _ hj => by omega, HB19⟩
        case round =>
          clear HB19 HB HBR
          obtain ⟨i, rfl, hik, HJ, HBR⟩ := hrel
          have HB : Hid (Below w.heap.size w wr) := HB1.out.trans (HBR.out.mono HB1.out.size)
          by_cases hil : i < k
          · have hili : (i : Int) < (k : Int) := by omega
            have hi0 : (0 : Int) ≤ (i : Int) := by omega
            have hin : i < p.consts.length := by omega
            have hini : (i : Int) < (p.consts.length : Int) := by omega
            obtain ⟨b', o', um, ul, ut, e', hbl', ⟨y0, y1, y2, y3, y4, y5⟩, hrep2⟩ := Cd.const_at (HP.out.below HB.out).consts i hin
            cases e'
            obtain ⟨b', o', vm, vl, vt, e', -, ⟨x0, x1, x2, x3, x4, x5⟩, hrep⟩ := Cd.const_at (HP.out.below HB.out).consts k hlt
            cases e'
            have hwf2 := Cd.wfs_at HW.out.wk i hin
            rw [← HXE.out] at x0 x1 x2 hrep
            obtain ⟨z, hz⟩ : ∃ z, z = p.consts[i] := ⟨_, rfl⟩
            have HZE := Lib.hid hz
            rw [← hz] at y0 y1 y2 hrep2 hwf2
            obtain ⟨⟨am, cm, rfl, _⟩, ⟨al, c_l, rfl, _⟩, ⟨at_, ct, rfl, _⟩⟩ := (Dt.rep_iff _ _ x vm vl vt).1 hrep
            obtain ⟨⟨am2, cm2, rfl, _⟩, ⟨al2, cl2, rfl, _⟩, ⟨at2, ct2, rfl, _⟩⟩ := (Dt.rep_iff _ _ z um ul ut).1 hrep2
            have HKP2 : Hid (∀ W, Below wr.heap.size wr W → W.cell? ⟨w.heap.size, 1, none⟩ = some (.slice (some ⟨b, o, none⟩) p.consts.length c2) ∧ W.cell? ⟨b, o + k * 6, none⟩ = some (.int .i64 x.k) ∧ W.cell? ⟨b, o + k * 6 + 1, none⟩ = some (.int .i64 x.n) ∧ W.cell? ⟨b, o + k * 6 + 2, none⟩ = some (.string x.s) ∧ W.cell? ⟨b, o + k * 6 + 3, none⟩ = some (.slice am x.m.length cm) ∧ W.cell? ⟨b, o + k * 6 + 4, none⟩ = some (.slice al x.l.length c_l) ∧ W.cell? ⟨b, o + k * 6 + 5, none⟩ = some (.slice at_ x.t.length ct) ∧ W.cell? ⟨b, o + i * 6, none⟩ = some (.int .i64 z.k) ∧ W.cell? ⟨b, o + i * 6 + 1, none⟩ = some (.int .i64 z.n) ∧ W.cell? ⟨b, o + i * 6 + 2, none⟩ = some (.string z.s) ∧ W.cell? ⟨b, o + i * 6 + 3, none⟩ = some (.slice am2 z.m.length cm2) ∧ W.cell? ⟨b, o + i * 6 + 4, none⟩ = some (.slice al2 z.l.length cl2) ∧ W.cell? ⟨b, o + i * 6 + 5, none⟩ = some (.slice at2 z.t.length ct2)) := fun W hW => by
              have hc : ∀ i, W.cell? ⟨b, i, none⟩ = wr.cell? ⟨b, i, none⟩ := fun i => hW.cell (p := ⟨b, i, none⟩) hbl'
              exact ⟨(HBP.out W (HBR.out.trans (hW.mono HBR.out.size))).2.1, (hc _).trans x0, (hc _).trans x1, (hc _).trans x2, (hc _).trans x3, (hc _).trans x4, (hc _).trans x5, (hc _).trans y0, (hc _).trans y1, (hc _).trans y2, (hc _).trans y3, (hc _).trans y4, (hc _).trans y5⟩
            have p1 := (HKP2.out wr (Below.refl _ _)).1
            obtain ⟨E, hE⟩ : ∃ E, Dt.sameD x z = E := ⟨_, rfl⟩
            have HSI : Hid (∀ W, Below wr.heap.size wr W → Calls Try.prog 32 #[.agg #[.int .i64 x.k, .int .i64 x.n, .string x.s, .slice am x.m.length cm, .slice al x.l.length c_l, .slice at_ x.t.length ct], .agg #[.int .i64 z.k, .int .i64 z.n, .string z.s, .slice am2 z.m.length cm2, .slice al2 z.l.length cl2, .slice at2 z.t.length ct2]] W fun e w' => e = .returned (.bool E) ∧ Below W.heap.size W w') := fun W hW => by
              have := rSame_any x z _ _ _ _ _ _ W HWFX.out hwf2 (hrep.below hW) (hrep2.below hW)
              rw [hE] at this
              exact this
            have HEE := Lib.hid hE
            have HS2 := HKP2.out _ ((Below.refl _ wr).drew)
            clear hwf2 hrep hrep2 hz hE hbl' x0 x1 x2 x3 x4 x5 y0 y1 y2 y3 y4 y5
            cases E with
            | true =>
              have HE : Hid (R = 90) := by
                show _ = _
                rw [HR.out]
                refine HNO.out ?_
                rw [HOK.out, ← HA.out, Cd.any_take.2 ⟨i, hin, hil, by rw [← HZE.out]; exact HEE.out⟩]
                rfl
              clear HR HNO HOK HA
              go_wp2_with fail
              clear p1
              refine wp_region_noPanic ?_
              refine wp_region_held_drew (S := fun W => W.cell? ⟨w.heap.size, 1, none⟩ = some (.slice (some ⟨b, o, none⟩) p.consts.length c2) ∧ W.cell? ⟨b, o + k * 6, none⟩ = some (.int .i64 x.k) ∧ W.cell? ⟨b, o + k * 6 + 1, none⟩ = some (.int .i64 x.n) ∧ W.cell? ⟨b, o + k * 6 + 2, none⟩ = some (.string x.s) ∧ W.cell? ⟨b, o + k * 6 + 3, none⟩ = some (.slice am x.m.length cm) ∧ W.cell? ⟨b, o + k * 6 + 4, none⟩ = some (.slice al x.l.length c_l) ∧ W.cell? ⟨b, o + k * 6 + 5, none⟩ = some (.slice at_ x.t.length ct) ∧ W.cell? ⟨b, o + i * 6, none⟩ = some (.int .i64 z.k) ∧ W.cell? ⟨b, o + i * 6 + 1, none⟩ = some (.int .i64 z.n) ∧ W.cell? ⟨b, o + i * 6 + 2, none⟩ = some (.string z.s) ∧ W.cell? ⟨b, o + i * 6 + 3, none⟩ = some (.slice am2 z.m.length cm2) ∧ W.cell? ⟨b, o + i * 6 + 4, none⟩ = some (.slice al2 z.l.length cl2) ∧ W.cell? ⟨b, o + i * 6 + 5, none⟩ = some (.slice at2 z.t.length ct2)) (by kernel_rfl) HS2 (fun hHeld => ?_)
              refine wpAnyH_take (i := 0) (oi := ⟨_, _, _, _, _, _⟩) (v := ?_) rfl (by kernel_rfl) (by kernel_rfl) (by kernel_rfl) (fun _ _ _ h => h) (Or.inl ⟨by rfl, ?_⟩) (by assumption) ?_
              rotate_left
              · intro w hSw
                clear hSw
                go_simp
                try with_reducible rfl
              simp only [Act.put, List.setIfInBounds_toArray, List.set_cons_zero, List.set_cons_succ]
              refine wpAnyH_take (i := 2) (oi := ⟨_, _, _, _, _, _⟩) (v := ?_) rfl (by kernel_rfl) (by kernel_rfl) (by kernel_rfl) (fun _ _ _ h => h) (Or.inl ⟨by rfl, ?_⟩) (by assumption) ?_
              rotate_left
              · intro w hSw
                clear hSw
                go_simp
                try with_reducible rfl
              simp only [Act.put, List.setIfInBounds_toArray, List.set_cons_zero, List.set_cons_succ]
              refine wpAnyH_take (i := 5) (oi := ⟨_, _, _, _, _, _⟩) (v := ?_) rfl (by kernel_rfl) (by kernel_rfl) (by kernel_rfl) (fun _ _ _ h => h) (Or.inl ⟨by rfl, ?_⟩) (by assumption) ?_
              rotate_left
              · intro w hSw
                clear hSw
                go_simp
                try with_reducible rfl
              simp only [Act.put, List.setIfInBounds_toArray, List.set_cons_zero, List.set_cons_succ]
              refine wpAnyH_take (i := 7) (oi := ⟨_, _, _, _, _, _⟩) (v := ?_) rfl (by kernel_rfl) (by kernel_rfl) (by kernel_rfl) (fun _ _ _ h => h) (Or.inl ⟨by rfl, ?_⟩) (by assumption) ?_
              rotate_left
              · intro w hSw
                clear hSw
                go_simp
                try with_reducible rfl
              simp only [Act.put, List.setIfInBounds_toArray, List.set_cons_zero, List.set_cons_succ]
              refine wpAnyH_take (i := 1) (oi := ⟨_, _, _, _, _, _⟩) (v := ?_) rfl (by kernel_rfl) (by kernel_rfl) (by kernel_rfl) (fun _ _ _ h => h) (Or.inl ⟨by rfl, ?_⟩) (by assumption) ?_
              rotate_left
              · intro w hSw
                obtain ⟨s0, s1, s2, s3, s4, s5, s6, s7, s8, s9, s10, s11, s12⟩ := hSw
                go_simp
                try with_reducible rfl
              simp only [Act.put, List.setIfInBounds_toArray, List.set_cons_zero, List.set_cons_succ]
              refine wpAnyH_take (i := 6) (oi := ⟨_, _, _, _, _, _⟩) (v := ?_) rfl (by kernel_rfl) (by kernel_rfl) (by kernel_rfl) (fun _ _ _ h => h) (Or.inl ⟨by rfl, ?_⟩) (by assumption) ?_
              rotate_left
              · intro w hSw
                obtain ⟨s0, s1, s2, s3, s4, s5, s6, s7, s8, s9, s10, s11, s12⟩ := hSw
                go_simp
                try with_reducible rfl
              simp only [Act.put, List.setIfInBounds_toArray, List.set_cons_zero, List.set_cons_succ]
              refine wpAnyH_take (i := 3) (oi := ⟨_, _, _, _, _, _⟩) (v := ?_) rfl (by kernel_rfl) (by kernel_rfl) (by kernel_rfl) (fun _ _ _ h => h) (Or.inl ⟨by rfl, ?_⟩) (by assumption) ?_
              rotate_left
              · intro w hSw
                clear hSw
                go_simp
                try with_reducible rfl
              simp only [Act.put, List.setIfInBounds_toArray, List.set_cons_zero, List.set_cons_succ]
              refine wpAnyH_take (i := 8) (oi := ⟨_, _, _, _, _, _⟩) (v := ?_) rfl (by kernel_rfl) (by kernel_rfl) (by kernel_rfl) (fun _ _ _ h => h) (Or.inl ⟨by rfl, ?_⟩) (by assumption) ?_
              rotate_left
              · intro w hSw
                clear hSw
                go_simp
                try with_reducible rfl
              simp only [Act.put, List.setIfInBounds_toArray, List.set_cons_zero, List.set_cons_succ]
              refine wpAnyH_take (i := 4) (oi := ⟨_, _, _, _, _, _⟩) (v := ?_) rfl (by kernel_rfl) (by kernel_rfl) (by kernel_rfl) (fun _ _ _ h => h) (Or.inl ⟨by rfl, ?_⟩) (by assumption) ?_
              rotate_left
              · intro w hSw
                obtain ⟨s0, s1, s2, s3, s4, s5, s6, s7, s8, s9, s10, s11, s12⟩ := hSw
                go_simp
                try with_reducible rfl
              simp only [Act.put, List.setIfInBounds_toArray, List.set_cons_zero, List.set_cons_succ]
              refine wpAnyH_take (i := 9) (oi := ⟨_, _, _, _, _, _⟩) (v := ?_) rfl (by kernel_rfl) (by kernel_rfl) (by kernel_rfl) (fun _ _ _ h => h) (Or.inl ⟨by rfl, ?_⟩) (by assumption) ?_
              rotate_left
              · intro w hSw
                obtain ⟨s0, s1, s2, s3, s4, s5, s6, s7, s8, s9, s10, s11, s12⟩ := hSw
                go_simp
                try with_reducible rfl
              simp only [Act.put, List.setIfInBounds_toArray, List.set_cons_zero, List.set_cons_succ]
              refine wpAnyH_ready (rs := [10]) (by kernel_rfl) (by simp) ?_
              refine AllReadyH.cons (o := ⟨_, _, _, _, _, _⟩) rfl (fun K hK => ?_) AllReadyH.nil
              go_simp
              refine (HSI.out _ ((Below.refl _ _).drew)).mono ?_
              rintro e w7 ⟨rfl, hb7⟩
              have HB7 : Hid (Below wr.heap.size wr w7) := Cd.dr hb7
              clear hb7
              dsimp only
              refine hK.out _ _ ?_ (fun hHeld => ?_)
              · exact HKP2.out _ HB7.out
              clear hK K
              try simp only [Act.put, List.setIfInBounds_toArray, List.set_cons_zero, List.set_cons_succ]
              refine wpAnyH_done (by kernel_rfl) ?_ _
              refine NoPanic.normal ?_
              go_wp2
              go_ret
              exact ⟨by rw [HE.out]; rfl, HB.out.trans (HB7.out.mono HB.out.size)⟩
            | false =>
              go_wp2_with fail
              clear p1
              refine wp_region_noPanic ?_
              refine wp_region_held_drew (S := fun W => W.cell? ⟨w.heap.size, 1, none⟩ = some (.slice (some ⟨b, o, none⟩) p.consts.length c2) ∧ W.cell? ⟨b, o + k * 6, none⟩ = some (.int .i64 x.k) ∧ W.cell? ⟨b, o + k * 6 + 1, none⟩ = some (.int .i64 x.n) ∧ W.cell? ⟨b, o + k * 6 + 2, none⟩ = some (.string x.s) ∧ W.cell? ⟨b, o + k * 6 + 3, none⟩ = some (.slice am x.m.length cm) ∧ W.cell? ⟨b, o + k * 6 + 4, none⟩ = some (.slice al x.l.length c_l) ∧ W.cell? ⟨b, o + k * 6 + 5, none⟩ = some (.slice at_ x.t.length ct) ∧ W.cell? ⟨b, o + i * 6, none⟩ = some (.int .i64 z.k) ∧ W.cell? ⟨b, o + i * 6 + 1, none⟩ = some (.int .i64 z.n) ∧ W.cell? ⟨b, o + i * 6 + 2, none⟩ = some (.string z.s) ∧ W.cell? ⟨b, o + i * 6 + 3, none⟩ = some (.slice am2 z.m.length cm2) ∧ W.cell? ⟨b, o + i * 6 + 4, none⟩ = some (.slice al2 z.l.length cl2) ∧ W.cell? ⟨b, o + i * 6 + 5, none⟩ = some (.slice at2 z.t.length ct2)) (by kernel_rfl) HS2 (fun hHeld => ?_)
              refine wpAnyH_take (i := 0) (oi := ⟨_, _, _, _, _, _⟩) (v := ?_) rfl (by kernel_rfl) (by kernel_rfl) (by kernel_rfl) (fun _ _ _ h => h) (Or.inl ⟨by rfl, ?_⟩) (by assumption) ?_
              rotate_left
              · intro w hSw
                clear hSw
                go_simp
                try with_reducible rfl
              simp only [Act.put, List.setIfInBounds_toArray, List.set_cons_zero, List.set_cons_succ]
              refine wpAnyH_take (i := 2) (oi := ⟨_, _, _, _, _, _⟩) (v := ?_) rfl (by kernel_rfl) (by kernel_rfl) (by kernel_rfl) (fun _ _ _ h => h) (Or.inl ⟨by rfl, ?_⟩) (by assumption) ?_
              rotate_left
              · intro w hSw
                clear hSw
                go_simp
                try with_reducible rfl
              simp only [Act.put, List.setIfInBounds_toArray, List.set_cons_zero, List.set_cons_succ]
              refine wpAnyH_take (i := 5) (oi := ⟨_, _, _, _, _, _⟩) (v := ?_) rfl (by kernel_rfl) (by kernel_rfl) (by kernel_rfl) (fun _ _ _ h => h) (Or.inl ⟨by rfl, ?_⟩) (by assumption) ?_
              rotate_left
              · intro w hSw
                clear hSw
                go_simp
                try with_reducible rfl
              simp only [Act.put, List.setIfInBounds_toArray, List.set_cons_zero, List.set_cons_succ]
              refine wpAnyH_take (i := 7) (oi := ⟨_, _, _, _, _, _⟩) (v := ?_) rfl (by kernel_rfl) (by kernel_rfl) (by kernel_rfl) (fun _ _ _ h => h) (Or.inl ⟨by rfl, ?_⟩) (by assumption) ?_
              rotate_left
              · intro w hSw
                clear hSw
                go_simp
                try with_reducible rfl
              simp only [Act.put, List.setIfInBounds_toArray, List.set_cons_zero, List.set_cons_succ]
              refine wpAnyH_take (i := 1) (oi := ⟨_, _, _, _, _, _⟩) (v := ?_) rfl (by kernel_rfl) (by kernel_rfl) (by kernel_rfl) (fun _ _ _ h => h) (Or.inl ⟨by rfl, ?_⟩) (by assumption) ?_
              rotate_left
              · intro w hSw
                obtain ⟨s0, s1, s2, s3, s4, s5, s6, s7, s8, s9, s10, s11, s12⟩ := hSw
                go_simp
                try with_reducible rfl
              simp only [Act.put, List.setIfInBounds_toArray, List.set_cons_zero, List.set_cons_succ]
              refine wpAnyH_take (i := 6) (oi := ⟨_, _, _, _, _, _⟩) (v := ?_) rfl (by kernel_rfl) (by kernel_rfl) (by kernel_rfl) (fun _ _ _ h => h) (Or.inl ⟨by rfl, ?_⟩) (by assumption) ?_
              rotate_left
              · intro w hSw
                obtain ⟨s0, s1, s2, s3, s4, s5, s6, s7, s8, s9, s10, s11, s12⟩ := hSw
                go_simp
                try with_reducible rfl
              simp only [Act.put, List.setIfInBounds_toArray, List.set_cons_zero, List.set_cons_succ]
              refine wpAnyH_take (i := 3) (oi := ⟨_, _, _, _, _, _⟩) (v := ?_) rfl (by kernel_rfl) (by kernel_rfl) (by kernel_rfl) (fun _ _ _ h => h) (Or.inl ⟨by rfl, ?_⟩) (by assumption) ?_
              rotate_left
              · intro w hSw
                clear hSw
                go_simp
                try with_reducible rfl
              simp only [Act.put, List.setIfInBounds_toArray, List.set_cons_zero, List.set_cons_succ]
              refine wpAnyH_take (i := 8) (oi := ⟨_, _, _, _, _, _⟩) (v := ?_) rfl (by kernel_rfl) (by kernel_rfl) (by kernel_rfl) (fun _ _ _ h => h) (Or.inl ⟨by rfl, ?_⟩) (by assumption) ?_
              rotate_left
              · intro w hSw
                clear hSw
                go_simp
                try with_reducible rfl
              simp only [Act.put, List.setIfInBounds_toArray, List.set_cons_zero, List.set_cons_succ]
              refine wpAnyH_take (i := 4) (oi := ⟨_, _, _, _, _, _⟩) (v := ?_) rfl (by kernel_rfl) (by kernel_rfl) (by kernel_rfl) (fun _ _ _ h => h) (Or.inl ⟨by rfl, ?_⟩) (by assumption) ?_
              rotate_left
              · intro w hSw
                obtain ⟨s0, s1, s2, s3, s4, s5, s6, s7, s8, s9, s10, s11, s12⟩ := hSw
                go_simp
                try with_reducible rfl
              simp only [Act.put, List.setIfInBounds_toArray, List.set_cons_zero, List.set_cons_succ]
              refine wpAnyH_take (i := 9) (oi := ⟨_, _, _, _, _, _⟩) (v := ?_) rfl (by kernel_rfl) (by kernel_rfl) (by kernel_rfl) (fun _ _ _ h => h) (Or.inl ⟨by rfl, ?_⟩) (by assumption) ?_
              rotate_left
              · intro w hSw
                obtain ⟨s0, s1, s2, s3, s4, s5, s6, s7, s8, s9, s10, s11, s12⟩ := hSw
                go_simp
                try with_reducible rfl
              simp only [Act.put, List.setIfInBounds_toArray, List.set_cons_zero, List.set_cons_succ]
              refine wpAnyH_ready (rs := [10]) (by kernel_rfl) (by simp) ?_
              refine AllReadyH.cons (o := ⟨_, _, _, _, _, _⟩) rfl (fun K hK => ?_) AllReadyH.nil
              go_simp
              refine (HSI.out _ ((Below.refl _ _).drew)).mono ?_
              rintro e w7 ⟨rfl, hb7⟩
              have HB7 : Hid (Below wr.heap.size wr w7) := Cd.dr hb7
              clear hb7
              dsimp only
              refine hK.out _ _ ?_ (fun hHeld => ?_)
              · exact HKP2.out _ HB7.out
              clear hK K
              try simp only [Act.put, List.setIfInBounds_toArray, List.set_cons_zero, List.set_cons_succ]
              refine wpAnyH_done (by kernel_rfl) ?_ _
              refine NoPanic.normal ?_
              go_wp2
              go_roundw
              case rel =>
                refine ⟨i + 1, by simp, by omega, fun j hj hji => ?_, HBR.out.trans (HB7.out.mono HBR.out.size)⟩
                by_cases e : j = i
                · subst e
                  rw [← HZE.out]
                  exact HEE.out
                · exact HJ.out j hj (by omega)
              case measure => simp [intOf]; omega
          · obtain rfl : i = k := by omega
            have hge : ((i : Int) < (i : Int)) = False := eq_false (by omega)
            have HCK2 : Hid (Cd.constOk p i = true) := by
              show _ = _
              rw [HOK.out, ← HA.out]
              have : ((p.consts.take i).any fun y => Dt.sameD y x) = false := by
                cases e : ((p.consts.take i).any fun y => Dt.sameD y x) with
                | false => rfl
                | true =>
                  obtain ⟨j, hj, hji, h⟩ := Cd.any_take.1 e
                  rw [HJ.out j hj hji] at h
                  cases h
              rw [this]
              rfl
            clear hil
            go_wp2
            go_roundw
            case rel =>
              refine ⟨i + 1, by simp, by omega, fun j hj => ?_, HBR⟩
              by_cases e : j = i
              · rw [e]; exact HCK2.out
              · exact HK.out j (by omega)
            case measure => simp [intOf]; omega
    · have hge : (p.consts.length : Int) ≤ (k : Int) := by omega
      obtain rfl : k = p.consts.length := by omega
      have HKC : Hid (∀ i, i < p.consts.length → Cd.constOk p i = true) := fun i hi => HK.out i hi
      clear hlt HK
      go_wp2
      clear p0 p1 p2 hge hk
      go_loopw [5] (fun v wz => ∃ k : Nat, v = .int .i64 k ∧ k ≤ p.names.length ∧ Hid (∀ i, i < k → Cd.nameOk p i = true) ∧ Hid (Below w1.heap.size w1 wz)) (fun v _ => p.names.length - (intOf v).toNat)
      case atStart => exact ⟨0, rfl, by omega, fun i hi => by omega, HBR⟩
      case round =>
        clear HBR
        obtain ⟨k, rfl, hk, HK, HBR⟩ := hrel
        obtain ⟨p0, p1, p2⟩ := HBP.out _ HBR.out
        by_cases hlt : k < p.names.length
        · have hlti : (k : Int) < (p.names.length : Int) := by omega
          have hk0 : (0 : Int) ≤ (k : Int) := by omega
          have HB : Hid (Below w.heap.size w wr) := HB1.out.trans (HBR.out.mono HB1.out.size)
          obtain ⟨b, o, rfl, hbl, x0⟩ := Cd.name_at (HP.out.below HB.out).names k hlt
          have hok := Cd.nameOk_at hlt
          have hno := fun h => Cd.check_name k hlt h
          have hsz := HNS.out p.names[k] (List.getElem_mem hlt)
          obtain ⟨sx, hs⟩ : ∃ s, s = p.names[k] := ⟨_, rfl⟩
          have HSX := Lib.hid hs
          rw [← hs] at x0 hok hsz
          have hsy := SymbolR2_any sx wr hsz
          obtain ⟨A, hA⟩ : ∃ A, A = Lx.symbol sx.data.toList := ⟨_, rfl⟩
          rw [← hA] at hsy hok
          have HOK := Lib.hid hok
          have HNO := Lib.hid hno
          clear hs hA hok hno hsz
          cases A with
          | false =>
            have HE : Hid (R = 90) := by show _ = _; rw [HR.out]; exact HNO.out (by rw [HOK.out]; rfl)
            clear HR HOK HNO
            go_wp2_with (go_at_call 34; refine hsy.mono ?_; clear hsy; rintro e w9 ⟨rfl, rfl⟩)
            go_ret
            exact ⟨by rw [HE.out]; rfl, HB.out⟩
          | true =>
            go_wp2_with (go_at_call 34; refine hsy.mono ?_; clear hsy; rintro e w9 ⟨rfl, rfl⟩)
            clear x0 p0 p1 p2
            go_loopw [6] (fun v wz => ∃ i : Nat, v = .int .i64 i ∧ i ≤ k ∧ Hid (∀ j, (hj : j < p.names.length) → j < i → sx ≠ p.names[j]) ∧ Hid (Below w1.heap.size w1 wz)) (fun v _ => k - (intOf v).toNat)
            case atStart => exact ⟨0, rfl, by omega, fun j _ hj => by omega, HBR⟩
            case round =>
              clear HB HBR
              obtain ⟨i, rfl, hik, HJ, HBR⟩ := hrel
              have HB : Hid (Below w.heap.size w wr) := HB1.out.trans (HBR.out.mono HB1.out.size)
              obtain ⟨p0, p1, p2⟩ := HBP.out _ HBR.out
              by_cases hil : i < k
              · have hili : (i : Int) < (k : Int) := by omega
                have hi0 : (0 : Int) ≤ (i : Int) := by omega
                have hin : i < p.names.length := by omega
                have hini : (i : Int) < (p.names.length : Int) := by omega
                obtain ⟨b', o', e', -, y0⟩ := Cd.name_at (HP.out.below HB.out).names i hin
                cases e'
                obtain ⟨b', o', e', -, x0⟩ := Cd.name_at (HP.out.below HB.out).names k hlt
                cases e'
                rw [← HSX.out] at x0
                obtain ⟨sz, hsz⟩ : ∃ s, s = p.names[i] := ⟨_, rfl⟩
                have HSZ := Lib.hid hsz
                rw [← hsz] at y0
                clear hsz
                by_cases heq : sx = sz
                · have hse : (sx.toList == sz.toList) = true := by rw [heq]; exact beq_self_eq_true _
                  have hse2 : (sx == sz) = true := by rw [heq]; exact beq_self_eq_true _
                  have HE : Hid (R = 90) := by
                    show _ = _
                    rw [HR.out]
                    refine HNO.out ?_
                    rw [HOK.out, Cd.cont_take.2 ⟨i, hin, hil, by rw [heq]; exact HSZ.out⟩]
                    rfl
                  clear HR HOK HNO heq
                  go_wp2_with fail
                  go_quiet (fail)
                  go_wp2
                  go_ret
                  exact ⟨by rw [HE.out]; rfl, Dt.bdrew HB.out _⟩
                · have b1 : (sx.data == sz.data) = false := by rw [beq_eq_false_iff_ne]; intro e; apply heq; cases sx; cases sz; cases e; rfl
                  have b3 : (sx == sz) = false := b1
                  have b4 : (sx.toList == sz.toList) = false := by
                    rw [ByteArray.toList_eq, ByteArray.toList_eq]
                    rw [beq_eq_false_iff_ne]
                    intro e
                    rw [beq_eq_false_iff_ne] at b1
                    exact b1 (Array.toList_inj.1 e)
                  have HJN : Hid (∀ j, (hj : j < p.names.length) → j < i + 1 → sx ≠ p.names[j]) := fun j hj hji => by
                    by_cases e : j = i
                    · subst e
                      rw [← HSZ.out]
                      exact heq
                    · exact HJ.out j hj (by omega)
                  clear heq
                  go_wp2_with fail
                  go_quiet (fail)
                  go_wp2
                  go_roundw
                  case rel => exact ⟨i + 1, by simp, by omega, HJN, Dt.bdrew HBR.out _⟩
                  case measure => simp [intOf]; omega
              · obtain rfl : i = k := by omega
                have hge : ((i : Int) < (i : Int)) = False := eq_false (by omega)
                have HCK2 : Hid (Cd.nameOk p i = true) := by
                  show _ = _
                  rw [HOK.out]
                  have : ((p.names.take i).contains sx) = false := by
                    cases e : ((p.names.take i).contains sx) with
                    | false => rfl
                    | true =>
                      obtain ⟨j, hj, hji, h⟩ := Cd.cont_take.1 e
                      exact absurd h (HJ.out j hj hji)
                  rw [this]
                  rfl
                clear hil
                go_wp2
                go_roundw
                case rel =>
                  refine ⟨i + 1, by simp, by omega, fun j hj => ?_, HBR⟩
                  by_cases e : j = i
                  · rw [e]; exact HCK2.out
                  · exact HK.out j (by omega)
                case measure => simp [intOf]; omega
        · obtain rfl : k = p.names.length := by omega
          have HKN : Hid (∀ i, i < p.names.length → Cd.nameOk p i = true) := fun i hi => HK.out i hi
          clear hlt HK
          go_wp2
          clear p0 p1 p2 hk
          go_loopw [7] (fun v wz => ∃ k : Nat, v = .int .i64 k ∧ k ≤ p.codes.length ∧ Hid (∀ i, (hi : i < p.codes.length) → i < k → Cd.good p p.codes[i] = true) ∧ Hid (Below w1.heap.size w1 wz)) (fun v _ => p.codes.length - (intOf v).toNat)
          case atStart => exact ⟨0, rfl, by omega, fun i _ hi => by omega, HBR⟩
          case round =>
            clear HBR
            obtain ⟨k, rfl, hk, HK, HBR⟩ := hrel
            obtain ⟨p0, p1, p2⟩ := HBP.out _ HBR.out
            by_cases hlt : k < p.codes.length
            · have hlti : (k : Int) < (p.codes.length : Int) := by omega
              have hk0 : (0 : Int) ≤ (k : Int) := by omega
              have HB : Hid (Below w.heap.size w wr) := HB1.out.trans (HBR.out.mono HB1.out.size)
              have hpr := HP.out.below HB.out
              obtain ⟨b, o, hao, -, hbl, x0, x1, x2, x3, vi, x4, hi⟩ := Cd.code_at hpr.codes k hlt
              cases hao
              obtain ⟨ai, ci, rfl⟩ := hi.form
              have hlen := (HW.out.wc p.codes[k] (List.getElem_mem hlt)).2.2.2.2
              have hno := fun h => Cd.check_code k hlt h
              obtain ⟨c, hc⟩ : ∃ c, c = p.codes[k] := ⟨_, rfl⟩
              have HCE := Lib.hid hc
              rw [← hc] at x0 x1 x2 x3 x4 hi hlen hno
              have HKP3 : Hid (∀ W, Below wr.heap.size wr W → W.cell? ⟨w.heap.size, 0, none⟩ = some (.slice (some ⟨b, o, none⟩) p.codes.length c1) ∧ W.cell? ⟨w.heap.size, 1, none⟩ = some (.slice a2 p.consts.length c2) ∧ W.cell? ⟨w.heap.size, 2, none⟩ = some (.slice a3 p.names.length c3) ∧ W.cell? ⟨b, o + k * 5, none⟩ = some (.int .i64 c.params) ∧ W.cell? ⟨b, o + k * 5 + 1, none⟩ = some (.int .i64 c.rest) ∧ W.cell? ⟨b, o + k * 5 + 2, none⟩ = some (.int .i64 c.caps) ∧ W.cell? ⟨b, o + k * 5 + 3, none⟩ = some (.int .i64 c.max) ∧ W.cell? ⟨b, o + k * 5 + 4, none⟩ = some (.slice ai c.ins.length ci)) := fun W hW => by
                have hc : ∀ i, W.cell? ⟨b, i, none⟩ = wr.cell? ⟨b, i, none⟩ := fun i => hW.cell (p := ⟨b, i, none⟩) hbl
                obtain ⟨y0, y1, y2⟩ := HBP.out W (HBR.out.trans (hW.mono HBR.out.size))
                exact ⟨y0, y1, y2, (hc _).trans x0, (hc _).trans x1, (hc _).trans x2, (hc _).trans x3, (hc _).trans x4⟩
              obtain ⟨E, hE⟩ : ∃ E, E = Cd.good p c := ⟨_, rfl⟩
              have HCO : Hid (∀ W, Below wr.heap.size wr W → Calls Try.prog 35 #[.agg #[.slice (some ⟨b, o, none⟩) p.codes.length c1, .slice a2 p.consts.length c2, .slice a3 p.names.length c3], .agg #[.int .i64 c.params, .int .i64 c.rest, .int .i64 c.caps, .int .i64 c.max, .slice ai c.ins.length ci]] W fun e w' => e = .returned (.bool E) ∧ Below W.heap.size W w') := fun W hW => by
                have := rcodes_any p c _ _ _ _ W (hpr.below hW) (hi.below hW) hlen.1 hlen.2
                rw [← hE] at this
                exact this
              have HS3 := HKP3.out _ ((Below.refl _ wr).drew)
              have HEE := Lib.hid hE
              have HNO := Lib.hid hno
              rw [← hE] at HNO
              clear hc hpr hi hlen hno hE hbl x0 x1 x2 x3 x4
              cases E with
              | false =>
                have HE : Hid (R = 90) := by show _ = _; rw [HR.out]; exact HNO.out rfl
                clear HR HNO
                go_wp2_with fail
                clear p0 p1 p2
                refine wp_region_noPanic ?_
                refine wp_region_held_drew (S := fun W => W.cell? ⟨w.heap.size, 0, none⟩ = some (.slice (some ⟨b, o, none⟩) p.codes.length c1) ∧ W.cell? ⟨w.heap.size, 1, none⟩ = some (.slice a2 p.consts.length c2) ∧ W.cell? ⟨w.heap.size, 2, none⟩ = some (.slice a3 p.names.length c3) ∧ W.cell? ⟨b, o + k * 5, none⟩ = some (.int .i64 c.params) ∧ W.cell? ⟨b, o + k * 5 + 1, none⟩ = some (.int .i64 c.rest) ∧ W.cell? ⟨b, o + k * 5 + 2, none⟩ = some (.int .i64 c.caps) ∧ W.cell? ⟨b, o + k * 5 + 3, none⟩ = some (.int .i64 c.max) ∧ W.cell? ⟨b, o + k * 5 + 4, none⟩ = some (.slice ai c.ins.length ci)) (by kernel_rfl) HS3 (fun hHeld => ?_)
                refine wpAnyH_take (i := 1) (oi := ⟨_, _, _, _, _, _⟩) (v := ?_) rfl (by kernel_rfl) (by kernel_rfl) (by kernel_rfl) (fun _ _ _ h => h) (Or.inl ⟨by rfl, ?_⟩) (by assumption) ?_
                rotate_left
                · intro w hSw
                  clear hSw
                  go_simp
                  try with_reducible rfl
                simp only [Act.put, List.setIfInBounds_toArray, List.set_cons_zero, List.set_cons_succ]
                refine wpAnyH_take (i := 3) (oi := ⟨_, _, _, _, _, _⟩) (v := ?_) rfl (by kernel_rfl) (by kernel_rfl) (by kernel_rfl) (fun _ _ _ h => h) (Or.inl ⟨by rfl, ?_⟩) (by assumption) ?_
                rotate_left
                · intro w hSw
                  clear hSw
                  go_simp
                  try with_reducible rfl
                simp only [Act.put, List.setIfInBounds_toArray, List.set_cons_zero, List.set_cons_succ]
                refine wpAnyH_take (i := 0) (oi := ⟨_, _, _, _, _, _⟩) (v := ?_) rfl (by kernel_rfl) (by kernel_rfl) (by kernel_rfl) (fun _ _ _ h => h) (Or.inl ⟨by rfl, ?_⟩) (by assumption) ?_
                rotate_left
                · intro w hSw
                  obtain ⟨s0, s1, s2, s3, s4, s5, s6, s7⟩ := hSw
                  go_simp
                  try with_reducible rfl
                simp only [Act.put, List.setIfInBounds_toArray, List.set_cons_zero, List.set_cons_succ]
                refine wpAnyH_take (i := 2) (oi := ⟨_, _, _, _, _, _⟩) (v := ?_) rfl (by kernel_rfl) (by kernel_rfl) (by kernel_rfl) (fun _ _ _ h => h) (Or.inl ⟨by rfl, ?_⟩) (by assumption) ?_
                rotate_left
                · intro w hSw
                  obtain ⟨s0, s1, s2, s3, s4, s5, s6, s7⟩ := hSw
                  go_simp
                  try with_reducible rfl
                simp only [Act.put, List.setIfInBounds_toArray, List.set_cons_zero, List.set_cons_succ]
                refine wpAnyH_take (i := 4) (oi := ⟨_, _, _, _, _, _⟩) (v := ?_) rfl (by kernel_rfl) (by kernel_rfl) (by kernel_rfl) (fun _ _ _ h => h) (Or.inl ⟨by rfl, ?_⟩) (by assumption) ?_
                rotate_left
                · intro w hSw
                  clear hSw
                  go_simp
                  try with_reducible rfl
                simp only [Act.put, List.setIfInBounds_toArray, List.set_cons_zero, List.set_cons_succ]
                refine wpAnyH_take (i := 5) (oi := ⟨_, _, _, _, _, _⟩) (v := ?_) rfl (by kernel_rfl) (by kernel_rfl) (by kernel_rfl) (fun _ _ _ h => h) (Or.inl ⟨by rfl, ?_⟩) (by assumption) ?_
                rotate_left
                · intro w hSw
                  obtain ⟨s0, s1, s2, s3, s4, s5, s6, s7⟩ := hSw
                  go_simp
                  try with_reducible rfl
                simp only [Act.put, List.setIfInBounds_toArray, List.set_cons_zero, List.set_cons_succ]
                refine wpAnyH_ready (rs := [6]) (by kernel_rfl) (by simp) ?_
                refine AllReadyH.cons (o := ⟨_, _, _, _, _, _⟩) rfl (fun K hK => ?_) AllReadyH.nil
                go_simp
                refine (HCO.out _ ((Below.refl _ _).drew)).mono ?_
                rintro e w7 ⟨rfl, hb7⟩
                have HB7 : Hid (Below wr.heap.size wr w7) := Cd.dr hb7
                clear hb7
                dsimp only
                refine hK.out _ _ ?_ (fun hHeld => ?_)
                · exact HKP3.out _ HB7.out
                clear hK K
                try simp only [Act.put, List.setIfInBounds_toArray, List.set_cons_zero, List.set_cons_succ]
                refine wpAnyH_take (i := 7) (oi := ⟨_, _, _, _, _, _⟩) (v := ?_) rfl (by kernel_rfl) (by kernel_rfl) (by kernel_rfl) (fun _ _ _ h => h) (Or.inl ⟨by rfl, ?_⟩) (by assumption) ?_
                rotate_left
                · intro w hSw
                  clear hSw
                  go_simp
                  try with_reducible rfl
                simp only [Act.put, List.setIfInBounds_toArray, List.set_cons_zero, List.set_cons_succ]
                refine wpAnyH_done (by kernel_rfl) ?_ _
                refine NoPanic.normal ?_
                go_wp2
                go_ret
                exact ⟨by rw [HE.out]; rfl, HB.out.trans (HB7.out.mono HB.out.size)⟩
              | true =>
                go_wp2_with fail
                clear p0 p1 p2
                refine wp_region_noPanic ?_
                refine wp_region_held_drew (S := fun W => W.cell? ⟨w.heap.size, 0, none⟩ = some (.slice (some ⟨b, o, none⟩) p.codes.length c1) ∧ W.cell? ⟨w.heap.size, 1, none⟩ = some (.slice a2 p.consts.length c2) ∧ W.cell? ⟨w.heap.size, 2, none⟩ = some (.slice a3 p.names.length c3) ∧ W.cell? ⟨b, o + k * 5, none⟩ = some (.int .i64 c.params) ∧ W.cell? ⟨b, o + k * 5 + 1, none⟩ = some (.int .i64 c.rest) ∧ W.cell? ⟨b, o + k * 5 + 2, none⟩ = some (.int .i64 c.caps) ∧ W.cell? ⟨b, o + k * 5 + 3, none⟩ = some (.int .i64 c.max) ∧ W.cell? ⟨b, o + k * 5 + 4, none⟩ = some (.slice ai c.ins.length ci)) (by kernel_rfl) HS3 (fun hHeld => ?_)
                refine wpAnyH_take (i := 1) (oi := ⟨_, _, _, _, _, _⟩) (v := ?_) rfl (by kernel_rfl) (by kernel_rfl) (by kernel_rfl) (fun _ _ _ h => h) (Or.inl ⟨by rfl, ?_⟩) (by assumption) ?_
                rotate_left
                · intro w hSw
                  clear hSw
                  go_simp
                  try with_reducible rfl
                simp only [Act.put, List.setIfInBounds_toArray, List.set_cons_zero, List.set_cons_succ]
                refine wpAnyH_take (i := 3) (oi := ⟨_, _, _, _, _, _⟩) (v := ?_) rfl (by kernel_rfl) (by kernel_rfl) (by kernel_rfl) (fun _ _ _ h => h) (Or.inl ⟨by rfl, ?_⟩) (by assumption) ?_
                rotate_left
                · intro w hSw
                  clear hSw
                  go_simp
                  try with_reducible rfl
                simp only [Act.put, List.setIfInBounds_toArray, List.set_cons_zero, List.set_cons_succ]
                refine wpAnyH_take (i := 0) (oi := ⟨_, _, _, _, _, _⟩) (v := ?_) rfl (by kernel_rfl) (by kernel_rfl) (by kernel_rfl) (fun _ _ _ h => h) (Or.inl ⟨by rfl, ?_⟩) (by assumption) ?_
                rotate_left
                · intro w hSw
                  obtain ⟨s0, s1, s2, s3, s4, s5, s6, s7⟩ := hSw
                  go_simp
                  try with_reducible rfl
                simp only [Act.put, List.setIfInBounds_toArray, List.set_cons_zero, List.set_cons_succ]
                refine wpAnyH_take (i := 2) (oi := ⟨_, _, _, _, _, _⟩) (v := ?_) rfl (by kernel_rfl) (by kernel_rfl) (by kernel_rfl) (fun _ _ _ h => h) (Or.inl ⟨by rfl, ?_⟩) (by assumption) ?_
                rotate_left
                · intro w hSw
                  obtain ⟨s0, s1, s2, s3, s4, s5, s6, s7⟩ := hSw
                  go_simp
                  try with_reducible rfl
                simp only [Act.put, List.setIfInBounds_toArray, List.set_cons_zero, List.set_cons_succ]
                refine wpAnyH_take (i := 4) (oi := ⟨_, _, _, _, _, _⟩) (v := ?_) rfl (by kernel_rfl) (by kernel_rfl) (by kernel_rfl) (fun _ _ _ h => h) (Or.inl ⟨by rfl, ?_⟩) (by assumption) ?_
                rotate_left
                · intro w hSw
                  clear hSw
                  go_simp
                  try with_reducible rfl
                simp only [Act.put, List.setIfInBounds_toArray, List.set_cons_zero, List.set_cons_succ]
                refine wpAnyH_take (i := 5) (oi := ⟨_, _, _, _, _, _⟩) (v := ?_) rfl (by kernel_rfl) (by kernel_rfl) (by kernel_rfl) (fun _ _ _ h => h) (Or.inl ⟨by rfl, ?_⟩) (by assumption) ?_
                rotate_left
                · intro w hSw
                  obtain ⟨s0, s1, s2, s3, s4, s5, s6, s7⟩ := hSw
                  go_simp
                  try with_reducible rfl
                simp only [Act.put, List.setIfInBounds_toArray, List.set_cons_zero, List.set_cons_succ]
                refine wpAnyH_ready (rs := [6]) (by kernel_rfl) (by simp) ?_
                refine AllReadyH.cons (o := ⟨_, _, _, _, _, _⟩) rfl (fun K hK => ?_) AllReadyH.nil
                go_simp
                refine (HCO.out _ ((Below.refl _ _).drew)).mono ?_
                rintro e w7 ⟨rfl, hb7⟩
                have HB7 : Hid (Below wr.heap.size wr w7) := Cd.dr hb7
                clear hb7
                dsimp only
                refine hK.out _ _ ?_ (fun hHeld => ?_)
                · exact HKP3.out _ HB7.out
                clear hK K
                try simp only [Act.put, List.setIfInBounds_toArray, List.set_cons_zero, List.set_cons_succ]
                refine wpAnyH_take (i := 7) (oi := ⟨_, _, _, _, _, _⟩) (v := ?_) rfl (by kernel_rfl) (by kernel_rfl) (by kernel_rfl) (fun _ _ _ h => h) (Or.inl ⟨by rfl, ?_⟩) (by assumption) ?_
                rotate_left
                · intro w hSw
                  clear hSw
                  go_simp
                  try with_reducible rfl
                simp only [Act.put, List.setIfInBounds_toArray, List.set_cons_zero, List.set_cons_succ]
                refine wpAnyH_done (by kernel_rfl) ?_ _
                refine NoPanic.normal ?_
                go_wp2
                go_roundw
                case rel =>
                  refine ⟨k + 1, by simp, by omega, fun i hi hik => ?_, HBR.out.trans (HB7.out.mono HBR.out.size)⟩
                  by_cases e : i = k
                  · subst e
                    rw [← HCE.out, ← HEE.out]
                  · exact HK.out i hi (by omega)
                case measure => simp [intOf]; omega
            · obtain rfl : k = p.codes.length := by omega
              have HE : Hid (R = 0) := by
                show _ = _
                rw [HR.out]
                exact Cd.check_yes HFAR.out HKC.out HKN.out (fun i hi => HK.out i hi hi)
              have HB : Hid (Below w.heap.size w wr) := HB1.out.trans (HBR.out.mono HB1.out.size)
              clear hlt HK
              go_wp2
              go_ret
              exact ⟨by rw [HE.out]; rfl, HB.out⟩
end Go.Proofs.Ytlckjphnbfahgaa
namespace Go.Proofs.Ytlckjphnbfahgaa
open Go.RowKit
attribute [local go_sem] Oper.semAt_some
set_option maxRecDepth 100000 in
set_option maxHeartbeats 8000000 in
theorem rDepths09_any {F : Nat → Prop} (p : Cd.Prog) (k : Int) (vc vk vn : Value) (w : World) (hp : Cd.PRep F w p vc vk vn) (hw : Cd.PWf p) :
    Calls Try.prog 10 #[.agg #[vc, vk, vn], .int .i64 k] w (Cd.DepthsPost p k w) := by
  obtain ⟨a1, c1, a2, c2, a3, c3, rfl, rfl, rfl⟩ := hp.forms
  obtain ⟨w1, hw1⟩ : ∃ w1, w.alloc (.cells #[.slice a1 p.codes.length c1, .slice a2 p.consts.length c2, .slice a3 p.names.length c3] 26) = w1 := ⟨_, rfl⟩
  obtain ⟨hb1, hs1, hbp⟩ := Cd.boxP hw1
  obtain ⟨p0, p1, p2⟩ := hbp w1 (Below.refl _ _)
  have hck := rCheck09_any p _ _ _ w1 (hp.below hb1) hw
  have HP := Lib.hid hp
  have HB1 := Lib.hid hb1
  have HBP := Lib.hid hbp
  obtain ⟨R, hR⟩ : ∃ R, Cd.checkP p = R := ⟨_, rfl⟩
  have hD : Cd.DepthsPost p k w = fun e w' => Cd.DepthsPost p k w e w' := rfl
  unfold Cd.DepthsPost
  rw [hR] at hck ⊢
  by_cases h0 : R = 0
  case neg =>
    have h0' : (R != 0) = true := bne_iff_ne.2 h0
    simp only [if_pos (show R ≠ 0 from h0)]
    clear hp hw hb1 hbp hR h0 hD
    go_enter Try.func10, Try.ntmps10
    go_wp2_with (go_at_call 12; refine hck.mono ?_; clear hck hw1 p0 p1 p2; rintro e w2 ⟨rfl, hb2⟩; have HB2 := Lib.hid hb2; clear hb2)
    go_ret2
    exact ⟨rfl, HB1.out.trans (HB2.out.mono HB1.out.size)⟩
  simp only [if_neg (show ¬ R ≠ 0 from fun h => h h0)]
  subst h0
  by_cases h1 : k < 0 ∨ (p.codes.length : Int) ≤ k
  · simp only [if_pos h1]
    clear hD hR
    by_cases h2 : k < 0
    · have h2' : decide (k < 0) = true := decide_eq_true h2
      clear hp hw hb1 hbp h1
      go_enter Try.func10, Try.ntmps10
      go_wp2_with (go_at_call 12; refine hck.mono ?_; clear hck hw1 p0 p1 p2; rintro e w2 ⟨rfl, hb2⟩; have HB2 := Lib.hid hb2; obtain ⟨p0, p1, p2⟩ := HBP.out w2 hb2; clear hb2)
      go_ret2
      exact ⟨rfl, HB1.out.trans (HB2.out.mono HB1.out.size)⟩
    · have h2' : decide (k < 0) = false := decide_eq_false h2
      have h3' : decide ((p.codes.length : Int) ≤ k) = true := decide_eq_true (by omega)
      clear hp hw hb1 hbp h1 h2
      go_enter Try.func10, Try.ntmps10
      go_wp2_with (go_at_call 12; refine hck.mono ?_; clear hck hw1 p0 p1 p2; rintro e w2 ⟨rfl, hb2⟩; have HB2 := Lib.hid hb2; obtain ⟨p0, p1, p2⟩ := HBP.out w2 hb2; clear hb2)
      go_ret2
      exact ⟨rfl, HB1.out.trans (HB2.out.mono HB1.out.size)⟩
  · simp only [if_neg h1]
    obtain ⟨j, rfl⟩ : ∃ j : Nat, k = (j : Int) := ⟨k.toNat, by omega⟩
    have hj : j < p.codes.length := by omega
    have hji : (j : Int) < (p.codes.length : Int) := by omega
    have h3' : decide ((p.codes.length : Int) ≤ (j : Int)) = false := decide_eq_false (by omega)
    have hj0 : (0 : Int) ≤ (j : Int) := by omega
    obtain ⟨-, -, hg⟩ := Cd.check_codes hR
    have hgd := Cd.good_good (hg p.codes[j] (List.getElem_mem hj))
    obtain ⟨fin, hfin⟩ := hgd.flow
    obtain ⟨b, o, rfl, -, hbl, x0, x1, x2, x3, vi, x4, hi⟩ := Cd.code_at hp.codes j hj
    have hwfx := (hw.wc p.codes[j] (List.getElem_mem hj)).2.2.2.2.2
    have hokx := hgd.ins
    obtain ⟨ai, ci, rfl⟩ := hi.form
    have hpos : ∀ x ∈ p.codes[j].ins, (Cd.op x.o).a = 5 → 0 ≤ x.a := fun x hx e => by
      obtain ⟨i, hi2, rfl⟩ := List.getElem_of_mem hx
      have h4 := (hgd.ins i hi2).lo
      rw [e] at h4
      have h5 : (i : Int) + 1 ≤ p.codes[j].ins[i].a := h4
      omega
    have hl1 : 1 ≤ p.codes[j].ins.length := List.length_pos_iff.2 hgd.ne
    have hl2 := hgd.len
    obtain ⟨c, hc⟩ : ∃ c, c = p.codes[j] := ⟨_, rfl⟩
    have HCE : Hid (p.codes[j]? = some c) := by show _ = _; rw [hc, List.getElem?_eq_getElem hj]
    rw [← hc] at hfin x0 x1 x2 x3 x4 hi hpos hl1 hl2 hwfx hokx
    have HOKX := Lib.hid hokx
    have HWFX := Lib.hid hwfx
    have HI := Lib.hid hi
    have HFIN := Lib.hid hfin
    have HPOS := Lib.hid hpos
    have HL : Hid (1 ≤ c.ins.length ∧ c.ins.length ≤ 4096) := ⟨hl1, hl2⟩
    have HX4 : Hid (∀ W, Below w1.heap.size w1 W → W.cell? ⟨b, o + j * 5, none⟩ = some (.int .i64 c.params) ∧ W.cell? ⟨b, o + j * 5 + 1, none⟩ = some (.int .i64 c.rest) ∧ W.cell? ⟨b, o + j * 5 + 2, none⟩ = some (.int .i64 c.caps) ∧ W.cell? ⟨b, o + j * 5 + 3, none⟩ = some (.int .i64 c.max) ∧ W.cell? ⟨b, o + j * 5 + 4, none⟩ = some (.slice ai c.ins.length ci)) := fun W hW =>
      have hc : ∀ i, W.cell? ⟨b, i, none⟩ = w.cell? ⟨b, i, none⟩ := fun i => (hb1.trans (hW.mono hb1.size)).cell (p := ⟨b, i, none⟩) hbl
      ⟨(hc _).trans x0, (hc _).trans x1, (hc _).trans x2, (hc _).trans x3, (hc _).trans x4⟩
    clear hp hw hb1 hbp h1 hD hR hg hgd hc hfin x0 x1 x2 x3 x4 hi hpos hl1 hl2 hbl hwfx hokx
    go_enter Try.func10, Try.ntmps10
    go_wp2_with (first | (go_at_call 12; refine hck.mono ?_; clear hck hw1 p0 p1 p2; rintro e w2 ⟨rfl, hb2⟩; have HB2 := Lib.hid hb2; obtain ⟨p0, p1, p2⟩ := HBP.out w2 hb2; obtain ⟨x0, x1, x2, x3, x4⟩ := HX4.out w2 hb2; have HB02 : Hid (Below w.heap.size w w2) := HB1.out.trans (hb2.mono HB1.out.size); have hfl := rdepths_any (p := p) c _ w2 (HI.out.below HB02.out) HL.out.1 HL.out.2 HOKX.out HWFX.out; rw [HFIN.out] at hfl; unfold Cd.FlowPost at hfl; simp only at hfl; clear hb2) | (go_at_call 23; refine hfl.mono ?_; clear hfl; rintro e w3 ⟨g, rfl, hln, hrow, hb3⟩; have HLN := Lib.hid hln; have HROW := Lib.hid hrow; have HB3 := Lib.hid hb3; clear hln hrow hb3))
    go_ret2
    refine ⟨c, fin, g, ?_, HFIN.out, HLN.out, ?_, ?_, HB02.out.trans (HB3.out.mono HB02.out.size)⟩
    · rw [Int.toNat_natCast]; exact HCE.out
    · rw [HLN.out]; try rfl
    · rw [HLN.out]; try rfl
      obtain ⟨h1, h2⟩ := HROW.out
      refine ⟨h1, h2.elim .inl (fun h3 => ?_)⟩
      obtain ⟨g', cap, cur, e1, e2, e3⟩ := h3
      exact .inr ⟨g', cap, cur, e1, Nat.le_trans HB02.out.size e2, e3⟩
end Go.Proofs.Ytlckjphnbfahgaa
namespace Go.Proofs.Ytlckjphnbfahgaa
open Go.RowKit Go.Sort
attribute [local go_sem] Oper.semAt_some
namespace Cd
/-- what Depths answers, in plain terms -/
def depL (p : Prog) (k : Int) : List Int × Int :=
  if checkP p ≠ 0 then ([], checkP p) else if k < 0 ∨ (p.codes.length : Int) ≤ k then ([], 6)
  else match p.codes[k.toNat]? with
    | some c => match flowW c.ins 0 (start c.ins.length) 0 with
      | some (fin, _) => (fin, 0)
      | none => ([], 0)
    | none => ([], 0)
theorem depPost {p : Prog} {k : Int} {w w' : World} {e : Ending} (h : DepthsPost p k w e w') : ∃ a c, e = .returned (.tuple #[.slice a (depL p k).1.length c, .int .i64 (depL p k).2]) ∧ Dt.IRow (fun _ => True) w' (.slice a (depL p k).1.length c) (depL p k).1 ∧ Below w.heap.size w w' := by
  unfold DepthsPost at h
  by_cases h0 : checkP p ≠ 0
  · rw [if_pos h0] at h
    have e1 : depL p k = ([], checkP p) := by unfold depL; rw [if_pos h0]
    rw [e1]
    exact ⟨none, 0, h.1, ⟨none, 0, rfl, Nat.le_refl _, fun h => absurd rfl h⟩, h.2⟩
  · rw [if_neg h0] at h
    by_cases h1 : k < 0 ∨ (p.codes.length : Int) ≤ k
    · rw [if_pos h1] at h
      have e1 : depL p k = ([], 6) := by unfold depL; rw [if_neg h0, if_pos h1]
      rw [e1]
      exact ⟨none, 0, h.1, ⟨none, 0, rfl, Nat.le_refl _, fun h => absurd rfl h⟩, h.2⟩
    · rw [if_neg h1] at h
      obtain ⟨c, fin, g, h2, h3, h4, h5, h6, h7⟩ := h
      have e1 : depL p k = (fin, 0) := by unfold depL; rw [if_neg h0, if_neg h1, h2]; simp only; rw [h3]
      rw [e1]
      exact ⟨some ⟨g, 0, none⟩, _, h5, own_ints h6 rfl, h7⟩
theorem flowW_len : ∀ (r : List Ins) (j : Nat) (ah : List Int) (most : Int) {fin : List Int} {M : Int}, flowW r j ah most = some (fin, M) → fin.length = ah.length
  | [], j, ah, most, fin, M, h => by rw [flowW] at h; cases h; rfl
  | x :: r, j, ah, most, fin, M, h => by
    rw [flowW] at h
    have hreach : ∀ {a b : List Int} {q v : Int}, reach a q v = some b → b.length = a.length := fun h => by
      unfold reach at h
      split at h
      · cases h
      split at h
      · cases h
      · cases h
        rw [List.length_set]
    split at h
    · cases h
    split at h
    · exact flowW_len r (j + 1) ah _ h
    · cases hs : stepW x j ah with
      | none => rw [hs] at h; cases h
      | some ah1 =>
        rw [hs] at h
        rw [flowW_len r (j + 1) ah1 _ h]
        unfold stepW at hs
        simp only at hs
        split at hs
        · cases hs
        · rename_i ah2 h2
          have e2 : ah2.length = ah.length := by
            split at h2
            · exact hreach h2
            · cases h2; rfl
          split at hs
          · rw [hreach hs, e2]
          · cases hs; exact e2
theorem depL_len {p : Prog} (hw : PWf p) (k : Int) : (depL p k).1.length ≤ 140737488355328 := by
  unfold depL
  split
  · simp
  split
  · simp
  cases hc : p.codes[k.toNat]? with
  | none => simp
  | some c =>
    simp only
    cases hf : flowW c.ins 0 (start c.ins.length) 0 with
    | none => simp
    | some r =>
      obtain ⟨fin, M⟩ := r
      simp only
      rw [flowW_len _ _ _ _ hf]
      have : (start c.ins.length).length = c.ins.length := by unfold start; simp
      rw [this]
      exact (hw.wc c (List.mem_of_getElem? hc)).2.2.2.2.1
end Cd
set_option maxRecDepth 100000 in
set_option maxHeartbeats 16000000 in
theorem CodeMay_law {F : Nat → Prop} (p : Cd.Prog) (vc vk vn : Value) (k : Int) (w : World) (hp : Cd.PRep F w p vc vk vn) (hw : Cd.PWf p) (_hk : (Lit.int .i64 k).wf = true) :
    Calls Try.prog 3 #[.agg #[vc, vk, vn], .int .i64 k] w fun e w' => e = .returned (.bool true) ∧ Below w.heap.size w w' := by
  obtain ⟨a1, c1, a2, c2, a3, c3, rfl, rfl, rfl⟩ := hp.forms
  obtain ⟨w1, hw1⟩ : ∃ w1, w.alloc (.cells #[.slice a1 p.codes.length c1, .slice a2 p.consts.length c2, .slice a3 p.names.length c3] 26) = w1 := ⟨_, rfl⟩
  obtain ⟨hb1, hs1, hbp⟩ := Cd.boxP hw1
  have haw := awake_any w1
  have HP := Lib.hid hp
  have HW := Lib.hid hw
  have HB1 := Lib.hid hb1
  have HBP := Lib.hid hbp
  clear hp hw hb1 hs1 hbp
  go_enter Try.func3, Try.ntmps3
  go_wp2_with (first | (go_at_call 7; refine haw.mono ?_; clear haw hw1; rintro e w2 ⟨rfl, hb2⟩; obtain ⟨p0, p1, p2⟩ := HBP.out w2 hb2; have HB2 : Hid (Below w.heap.size w w2) := HB1.out.trans (hb2.mono HB1.out.size); have HB12 := Lib.hid hb2; have hfew := few_any p _ _ _ w2 (HP.out.below HB2.out) HW.out; clear hb2) | (go_at_call 8; refine hfew.mono ?_; clear hfew p0 p1 p2; rintro e w3 ⟨⟨fb, rfl⟩, hb3⟩; refine Hid.out ?_))
  refine Lib.hid ?_
  have HB13 : Hid (Below w1.heap.size w1 w3) := HB12.out.trans (hb3.mono HB12.out.size)
  have HB3 : Hid (Below w.heap.size w w3) := HB2.out.trans (hb3.mono HB2.out.size)
  clear hb3 HB12 HB2
  cases fb with
  | false =>
    have haw := awake_any w3
    go_wp2_with (go_at_call 7; refine haw.mono ?_; clear haw; rintro e w4 ⟨rfl, hb4⟩)
    go_ret
    exact ⟨rfl, HB3.out.trans (hb4.mono HB3.out.size)⟩
  | true =>
    obtain ⟨p0, p1, p2⟩ := HBP.out w3 HB13.out
    have hlen := Cd.depL_len HW.out k
    have hd1 : ∀ W, Below w3.heap.size w3 W → Calls Try.prog 9 #[.agg #[.slice a1 p.codes.length c1, .slice a2 p.consts.length c2, .slice a3 p.names.length c3], .int .i64 k] W fun e w' => ∃ a c, e = .returned (.tuple #[.slice a (Cd.depL p k).1.length c, .int .i64 (Cd.depL p k).2]) ∧ Dt.IRow (fun _ => True) w' (.slice a (Cd.depL p k).1.length c) (Cd.depL p k).1 ∧ Below W.heap.size W w' := fun W hW => (depths_any p k _ _ _ W ((HP.out.below HB3.out).below hW) HW.out).mono fun _ _ h => Cd.depPost h
    have hd2 : ∀ W, Below w3.heap.size w3 W → Calls Try.prog 10 #[.agg #[.slice a1 p.codes.length c1, .slice a2 p.consts.length c2, .slice a3 p.names.length c3], .int .i64 k] W fun e w' => ∃ a c, e = .returned (.tuple #[.slice a (Cd.depL p k).1.length c, .int .i64 (Cd.depL p k).2]) ∧ Dt.IRow (fun _ => True) w' (.slice a (Cd.depL p k).1.length c) (Cd.depL p k).1 ∧ Below W.heap.size W w' := fun W hW => (rDepths09_any p k _ _ _ W ((HP.out.below HB3.out).below hW) HW.out).mono fun _ _ h => Cd.depPost h
    obtain ⟨⟨L, E⟩, hLE⟩ : ∃ q, Cd.depL p k = q := ⟨_, rfl⟩
    rw [hLE] at hd1 hd2 hlen
    simp only at hd1 hd2 hlen
    have h1 := hd1 w3 (Below.refl _ _)
    have HD2 := Lib.hid hd2
    clear hd1 hd2 hLE
    go_upto_region 5 with (first | (go_at_call 9; refine h1.mono ?_; clear h1 p0 p1 p2; rintro e w4 ⟨ax, cx, rfl, hx, hb4⟩; have HX := Lib.hid hx; have HB34 := Lib.hid hb4; obtain ⟨p0, p1, p2⟩ := HBP.out w4 (HB13.out.trans (hb4.mono HB13.out.size)); have h2 := HD2.out w4 hb4; clear hx hb4) | (go_at_call 10; refine h2.mono ?_; clear h2 p0 p1 p2; rintro e w5 ⟨ay, cy, rfl, hy, hb5⟩; have HY := Lib.hid hy; have HX5 := Lib.hid (HX.out.below hb5); have HB35 := Lib.hid (HB34.out.trans (hb5.mono HB34.out.size)); clear hy hb5))
    obtain ⟨p0, p1, p2⟩ := HBP.out w5 (HB13.out.trans (HB35.out.mono HB13.out.size))
    have q0 := cell_regrown p0
    have q1 := cell_regrown p1
    have q2 := cell_regrown p2
    have HB5 : Hid (Below w.heap.size w w5) := HB3.out.trans (HB35.out.mono HB3.out.size)
    obtain ⟨R, hR⟩ : ∃ R, Cd.checkP p = R := ⟨_, rfl⟩
    have cV1 : ∀ d os, Calls Try.prog 11 #[.agg #[.slice a1 p.codes.length c1, .slice a2 p.consts.length c2, .slice a3 p.names.length c3]] (grow (redrawn w5 d) os) fun e w'' => e = .returned (.int .i64 R) ∧ ∃ p : Regrown, w'' = grow (redrawn w5 p.d) p.os := fun d os => by
      have := check_any p _ _ _ (grow (redrawn w5 d) os) ((HP.out.below HB5.out).below (below_regrown w5 d os)) HW.out
      rw [hR] at this
      exact Calls.regrown_of this
    have cV2 : ∀ d os, Calls Try.prog 12 #[.agg #[.slice a1 p.codes.length c1, .slice a2 p.consts.length c2, .slice a3 p.names.length c3]] (grow (redrawn w5 d) os) fun e w'' => e = .returned (.int .i64 R) ∧ ∃ p : Regrown, w'' = grow (redrawn w5 p.d) p.os := fun d os => by
      have := rCheck09_any p _ _ _ (grow (redrawn w5 d) os) ((HP.out.below HB5.out).below (below_regrown w5 d os)) HW.out
      rw [hR] at this
      exact Calls.regrown_of this
    have cV3 : ∀ d os, Calls Try.prog 13 #[.slice ax L.length cx, .slice ay L.length cy] (grow (redrawn w5 d) os) fun e w'' => e = .returned (.bool true) ∧ ∃ p : Regrown, w'' = grow (redrawn w5 p.d) p.os := fun d os => by
      have := iEqual_any _ _ L L (grow (redrawn w5 d) os) (HX5.out.below (below_regrown w5 d os)) (HY.out.below (below_regrown w5 d os)) hlen hlen
      rw [decide_eq_true rfl] at this
      exact Calls.regrown_of this
    clear p0 p1 p2 hR
    refine wp_region_quiet_below (by kernel_rfl) (by kernel_rfl) ?_
    repeat (go_big_quiet_step (first | exact cV1 _ _ | exact cV2 _ _ | exact cV3 _ _))
    refine wpQuiet_nil ?_
    intro _ hw'
    obtain ⟨⟨dq, osq⟩, hw''⟩ := hw'
    subst hw''
    have hbq := below_regrown w5 dq osq
    obtain ⟨w6, hw6⟩ : ∃ w6, grow (redrawn w5 dq) osq = w6 := ⟨_, rfl⟩
    rw [hw6] at hbq ⊢
    have HB6 := Lib.hid (HB5.out.trans (hbq.mono HB5.out.size))
    clear cV1 cV2 cV3 q0 q1 q2 hw6 hbq
    go_wp2
    go_ret
    exact ⟨rfl, HB6.out⟩
end Go.Proofs.Ytlckjphnbfahgaa
namespace Go.Proofs.Ytlckjphnbfahgaa
open Go.RowKit
attribute [local go_sem] Oper.semAt_some
namespace Cd
/-- how little a program has -/
def FewIs (p : Prog) : Prop := p.codes.length ≤ 40 ∧ p.consts.length ≤ 60 ∧ p.names.length ≤ 60 ∧ ∀ c ∈ p.codes, c.ins.length ≤ 400
def FewPost (p : Prog) (w : World) (e : Ending) (w' : World) : Prop := (∃ b, e = .returned (.bool b) ∧ (b = true → FewIs p)) ∧ Below w.heap.size w w'
theorem fewNo {p : Prog} {w w' : World} (h : Below w.heap.size w w') : FewPost p w (.returned (.bool false)) w' := ⟨⟨_, rfl, fun h => by cases h⟩, h⟩
theorem fewYes {p : Prog} {w w' : World} (h1 : FewIs p) (h : Below w.heap.size w w') : FewPost p w (.returned (.bool true)) w' := ⟨⟨_, rfl, fun _ => h1⟩, h⟩
end Cd
set_option maxRecDepth 100000 in
set_option maxHeartbeats 8000000 in
theorem fewS_any {F : Nat → Prop} (p : Cd.Prog) (vc vk vn : Value) (w : World) (hp : Cd.PRep F w p vc vk vn) (hw : Cd.PWf p) :
    Calls Try.prog 8 #[.agg #[vc, vk, vn]] w fun e w' => Cd.FewPost p w e w' := by
  obtain ⟨a1, c1, a2, c2, a3, c3, rfl, rfl, rfl⟩ := hp.forms
  obtain ⟨w1, hw1⟩ : ∃ w1, w.alloc (.cells #[.slice a1 p.codes.length c1, .slice a2 p.consts.length c2, .slice a3 p.names.length c3] 26) = w1 := ⟨_, rfl⟩
  obtain ⟨hb1, hs1, hbp⟩ := Cd.boxP hw1
  obtain ⟨p0, p1, p2⟩ := hbp w1 (Below.refl _ _)
  have HP := Lib.hid hp
  have HW := Lib.hid hw
  have HB1 := Lib.hid hb1
  have HS1 := Lib.hid hs1
  have HBP := Lib.hid hbp
  clear hp hw hb1 hs1 hbp
  by_cases l1 : 40 < p.codes.length
  · have l1' : (40 : Int) < (p.codes.length : Int) := by omega
    go_enter Try.func8, Try.ntmps8
    go_wp2
    go_ret
    exact Cd.fewNo HB1.out
  have l1' : decide ((40 : Int) < (p.codes.length : Int)) = false := decide_eq_false (by omega)
  by_cases l2 : 60 < p.consts.length
  · have l2' : decide ((60 : Int) < (p.consts.length : Int)) = true := decide_eq_true (by omega)
    clear l1 l2
    go_enter Try.func8, Try.ntmps8
    go_wp2
    go_ret
    exact Cd.fewNo HB1.out
  have l2' : decide ((60 : Int) < (p.consts.length : Int)) = false := decide_eq_false (by omega)
  by_cases l3 : 60 < p.names.length
  · have l3' : decide ((60 : Int) < (p.names.length : Int)) = true := decide_eq_true (by omega)
    clear l1 l2 l3
    go_enter Try.func8, Try.ntmps8
    go_wp2
    go_ret
    exact Cd.fewNo HB1.out
  have l3' : decide ((60 : Int) < (p.names.length : Int)) = false := decide_eq_false (by omega)
  have hl1 : p.codes.length ≤ 40 := by omega
  have hl2 : p.consts.length ≤ 60 := by omega
  have hl3 : p.names.length ≤ 60 := by omega
  clear l1 l2 l3
  go_enter Try.func8, Try.ntmps8
  go_wp2
  clear l1' l2' l3'
  go_loopw [28] (fun v wr => ∃ k : Nat, v = .int .i64 k ∧ k ≤ p.codes.length ∧ Hid (∀ c ∈ p.codes.take k, c.ins.length ≤ 400) ∧ Hid (Below w1.heap.size w1 wr)) (fun v _ => p.codes.length - (intOf v).toNat)
  case atStart => exact ⟨0, rfl, by omega, (fun c hc => by simp at hc), Below.refl _ _⟩
  case round =>
    obtain ⟨k, rfl, hk, HF, HBR⟩ := hrel
    obtain ⟨p0', p1', p2'⟩ := HBP.out wr HBR.out
    by_cases hlt : k < p.codes.length
    · have hlti : (k : Int) < (p.codes.length : Int) := by omega
      have HB : Hid (Below w.heap.size w wr) := HB1.out.trans (HBR.out.mono HB1.out.size)
      obtain ⟨b, o, rfl, -, -, x0, x1, x2, x3, vi, x4, hi⟩ := Cd.code_at (HP.out.below HB.out).codes k hlt
      obtain ⟨ai, ci, rfl⟩ := hi.form
      have HTK : Hid (∀ d, d = p.codes[k] → d.ins.length ≤ 400 → ∀ c ∈ p.codes.take (k + 1), c.ins.length ≤ 400) := fun d hd hl c hc => by
        rw [List.take_succ_eq_append_getElem hlt, List.mem_append] at hc
        rcases hc with hc | hc
        · exact HF.out c hc
        · rw [List.mem_singleton.1 hc, ← hd]; exact hl
      obtain ⟨c, hc⟩ : ∃ c, c = p.codes[k] := ⟨_, rfl⟩
      rw [← hc] at x0 x1 x2 x3 x4
      have HBN : Hid (Below w1.heap.size w1 (wr.alloc (.cells #[.int .i64 c.params, .int .i64 c.rest, .int .i64 c.caps, .int .i64 c.max, .slice ai c.ins.length ci] 39))) := HBR.out.alloc HBR.out.size _
      have HTC : Hid (c.ins.length ≤ 400 → ∀ c ∈ p.codes.take (k + 1), c.ins.length ≤ 400) := HTK.out c hc
      clear hi hc HTK
      by_cases h4 : 400 < c.ins.length
      · have h4' : (400 : Int) < (c.ins.length : Int) := by omega
        go_wp2
        go_ret
        exact Cd.fewNo (HB1.out.trans (HBN.out.mono HB1.out.size))
      · have h4' : decide ((400 : Int) < (c.ins.length : Int)) = false := decide_eq_false (by omega)
        have HTN : Hid (∀ c ∈ p.codes.take (k + 1), c.ins.length ≤ 400) := HTC.out (by omega)
        clear h4
        go_wp2
        go_roundw
        case rel => exact ⟨k + 1, by simp, by omega, HTN, HBN⟩
        case measure => simp [intOf]; omega
    · have hge : (p.codes.length : Int) ≤ (k : Int) := by omega
      have hd : decide (k < p.codes.length) = false := decide_eq_false hlt
      have hd' : (k < p.codes.length) = False := eq_false hlt
      have HF : Hid (∀ c ∈ p.codes, c.ins.length ≤ 400) := by have h := HF.out; rw [List.take_of_length_le (by omega)] at h; exact h
      clear hlt p0 p1 p2
      go_wp2
      try simp only [hd, hd', decide_false]
      clear hd hd'
      go_loopw [40] (fun v wz => ∃ k : Nat, v = .int .i64 k ∧ k ≤ p.consts.length ∧ Hid (Below w1.heap.size w1 wz)) (fun v _ => p.consts.length - (intOf v).toNat)
      case atStart => exact ⟨0, rfl, by omega, HBR⟩
      case round =>
        clear hge hk p0' p1' p2' HBR
        obtain ⟨k, rfl, hk, HBR⟩ := hrel
        obtain ⟨p0', p1', p2'⟩ := HBP.out _ HBR.out
        by_cases hlt : k < p.consts.length
        · have hlti : (k : Int) < (p.consts.length : Int) := by omega
          have HB : Hid (Below w.heap.size w _) := HB1.out.trans (HBR.out.mono HB1.out.size)
          obtain ⟨b, o, vm, vl, vt, rfl, -, ⟨x0, x1, x2, x3, x4, x5⟩, hrep⟩ := Cd.const_at (HP.out.below HB.out).consts k hlt
          have hwf := Cd.wfs_at HW.out.wk k hlt
          obtain ⟨x, hx⟩ : ∃ x, x = p.consts[k] := ⟨_, rfl⟩
          rw [← hx] at x0 x1 x2 hrep hwf
          obtain ⟨am, cm, al, c_l, at_, ct, rfl, rfl, rfl⟩ : ∃ am cm al c_l at_ ct, vm = .slice am x.m.length cm ∧ vl = .slice al x.l.length c_l ∧ vt = .slice at_ x.t.length ct := by
            obtain ⟨⟨a1, c1, h1, _⟩, ⟨a2, c2, h2, _⟩, ⟨a3, c3, h3, _⟩⟩ := (Dt.rep_iff _ _ x vm vl vt).1 hrep
            exact ⟨_, _, _, _, _, _, h1, h2, h3⟩
          obtain ⟨w4, hw4⟩ : ∃ w4, wr.alloc (.cells #[.int .i64 x.k, .int .i64 x.n, .string x.s, .slice am x.m.length cm, .slice al x.l.length c_l, .slice at_ x.t.length ct] 55) = w4 := ⟨_, rfl⟩
          have hb4 : Below wr.heap.size wr w4 := by rw [← hw4]; exact (Below.refl _ _).alloc (Nat.le_refl _) _
          have hsix := Dt.six_of' wr x (.slice am x.m.length cm) (.slice al x.l.length c_l) (.slice at_ x.t.length ct) 55
          rw [hw4] at hsix
          obtain ⟨z0, z1, z2, z3, z4, z5⟩ := hsix
          simp only [Nat.zero_add] at z0 z1 z2 z3 z4 z5
          have hsz := rSize_any x _ _ _ w4 hwf (hrep.below hb4)
          obtain ⟨Z, hZ⟩ : ∃ Z : Int, Z = (Cd.sizeD x : Nat) := ⟨_, rfl⟩
          rw [← hZ] at hsz
          have HB4 : Hid (Below w1.heap.size w1 w4) := HBR.out.trans (hb4.mono HBR.out.size)
          clear hx hb4 hrep hwf hZ
          by_cases g0 : 1000 < x.s.size
          · have g0' : decide ((1000 : Int) < (x.s.size : Int)) = true := decide_eq_true (by omega)
            clear g0
            go_wp2
            go_ret
            exact Cd.fewNo (HB1.out.trans (HB4.out.mono HB1.out.size))
          have g0' : decide ((1000 : Int) < (x.s.size : Int)) = false := decide_eq_false (by omega)
          clear g0
          by_cases g1 : 100 < x.m.length
          · have g1' : decide ((100 : Int) < (x.m.length : Int)) = true := decide_eq_true (by omega)
            clear g1
            go_wp2
            go_ret
            exact Cd.fewNo (HB1.out.trans (HB4.out.mono HB1.out.size))
          have g1' : decide ((100 : Int) < (x.m.length : Int)) = false := decide_eq_false (by omega)
          clear g1
          by_cases g2 : 300 < x.l.length
          · have g2' : decide ((300 : Int) < (x.l.length : Int)) = true := decide_eq_true (by omega)
            clear g2
            go_wp2
            go_ret
            exact Cd.fewNo (HB1.out.trans (HB4.out.mono HB1.out.size))
          have g2' : decide ((300 : Int) < (x.l.length : Int)) = false := decide_eq_false (by omega)
          clear g2
          by_cases g3 : 10 < x.t.length
          · have g3' : decide ((10 : Int) < (x.t.length : Int)) = true := decide_eq_true (by omega)
            clear g3
            go_wp2
            go_ret
            exact Cd.fewNo (HB1.out.trans (HB4.out.mono HB1.out.size))
          have g3' : decide ((10 : Int) < (x.t.length : Int)) = false := decide_eq_false (by omega)
          clear g3
          by_cases g5 : 400 < Z
          · go_wp2_with (go_at_call 21; refine hsz.mono ?_; clear hsz; rintro e w9 ⟨rfl, hb9⟩; have HB9 : Hid (Below w1.heap.size w1 w9) := HB4.out.trans (hb9.mono HB4.out.size); clear hb9)
            go_ret
            exact Cd.fewNo (HB1.out.trans (HB9.out.mono HB1.out.size))
          · have g5' : decide (400 < Z) = false := decide_eq_false g5
            clear g5
            go_wp2_with (go_at_call 21; refine hsz.mono ?_; clear hsz; rintro e w9 ⟨rfl, hb9⟩; have HB9 : Hid (Below w1.heap.size w1 w9) := HB4.out.trans (hb9.mono HB4.out.size); clear hb9)
            go_roundw
            case rel => exact ⟨k + 1, by simp, by omega, HB9⟩
            case measure => simp [intOf]; omega
        · have hge : (p.consts.length : Int) ≤ (k : Int) := by omega
          have hd' : (k < p.consts.length) = False := eq_false hlt
          clear hlt
          go_wp2
          try simp only [hd', decide_false]
          clear hd'
          go_loopw [75] (fun v wz => ∃ k : Nat, v = .int .i64 k ∧ k ≤ p.names.length ∧ Hid (Below w1.heap.size w1 wz)) (fun v _ => p.names.length - (intOf v).toNat)
          case atStart => exact ⟨0, rfl, by omega, HBR⟩
          case round =>
            clear hge hk p0' p1' p2' HBR
            obtain ⟨k, rfl, hk, HBR⟩ := hrel
            by_cases hlt : k < p.names.length
            · have hlti : (k : Int) < (p.names.length : Int) := by omega
              have HB : Hid (Below w.heap.size w _) := HB1.out.trans (HBR.out.mono HB1.out.size)
              obtain ⟨b, o, rfl, -, x0⟩ := Cd.name_at (HP.out.below HB.out).names k hlt
              obtain ⟨x, hx⟩ : ∃ x, x = p.names[k] := ⟨_, rfl⟩
              rw [← hx] at x0
              clear hx
              by_cases g0 : 1000 < x.size
              · have g0' : decide ((1000 : Int) < (x.size : Int)) = true := decide_eq_true (by omega)
                clear g0
                go_wp2
                go_ret
                exact Cd.fewNo HB.out
              · have g0' : decide ((1000 : Int) < (x.size : Int)) = false := decide_eq_false (by omega)
                clear g0
                go_wp2
                go_roundw
                case rel => exact ⟨k + 1, by simp, by omega, HBR⟩
                case measure => simp [intOf]; omega
            · have hge : (p.names.length : Int) ≤ (k : Int) := by omega
              clear hlt
              go_wp2
              go_ret
              exact Cd.fewYes ⟨hl1, hl2, hl3, HF.out⟩ (HB1.out.trans (HBR.out.mono HB1.out.size))
end Go.Proofs.Ytlckjphnbfahgaa
namespace Go.Proofs.Ytlckjphnbfahgaa
open Go.RowKit
attribute [local go_sem] Oper.semAt_some
set_option maxRecDepth 100000 in
set_option maxHeartbeats 2000000 in
theorem insEqual_any {F G : Nat → Prop} (va vb : Value) (m m' : List Cd.Ins) (w : World) (ha : Cd.InsRow F w va m) (hb : Cd.InsRow G w vb m') (hl : m.length ≤ 140737488355328) (_hl' : m'.length ≤ 140737488355328) :
    Calls Try.prog 43 #[va, vb] w fun e w' => e = .returned (.bool (decide (m = m'))) ∧ Below w.heap.size w w' := by
  obtain ⟨a, c, rfl, _, hc⟩ := ha
  obtain ⟨a', c', rfl, _, hc'⟩ := hb
  obtain ⟨R, hR⟩ : ∃ R, R = decide (m = m') := ⟨_, rfl⟩
  rw [← hR]
  by_cases hlen : m.length = m'.length
  case neg =>
    have hne : ((m.length : Int) != (m'.length : Int)) = true := by simpa using fun h => hlen (by omega)
    have HR : Hid (R = false) := by show _ = _; rw [hR]; exact decide_eq_false (fun e => hlen (by rw [e]))
    clear hc hc' hR hlen
    go_enter Try.func43, Try.ntmps43
    go_wp2
    go_ret
    exact ⟨by rw [HR.out]; rfl, Below.refl _ _⟩
  have hne : ((m.length : Int) != (m'.length : Int)) = false := by simp [hlen]
  have H0 : Hid (R = decide (m.drop 0 = m'.drop 0)) := by show _ = _; rw [List.drop_zero, List.drop_zero]; exact hR
  have HC := Lib.hid hc
  have HC' := Lib.hid hc'
  have HL := Lib.hid hlen
  clear hc hc' hR hlen
  go_enter Try.func43, Try.ntmps43
  go_wp2
  go_loopw [13] (fun v wr => ∃ k : Nat, v = .int .i64 k ∧ k ≤ m.length ∧ Hid (R = decide (m.drop k = m'.drop k)) ∧ ∃ q, wr = w.drewN q) (fun v _ => m.length - (intOf v).toNat)
  case atStart => exact ⟨0, rfl, by omega, H0, 0, rfl⟩
  case round =>
    obtain ⟨k, rfl, hk, HR, q, rfl⟩ := hrel
    by_cases hlt : k < m.length
    · have hlti : (k : Int) < (m.length : Int) := by omega
      have hlt' : k < m'.length := by have := HL.out; omega
      have hlti' : (k : Int) < (m'.length : Int) := by omega
      obtain ⟨b, o, rfl, _, hb, hcell⟩ := HC.out (by intro h0; rw [h0] at hlt; simp at hlt)
      obtain ⟨b', o', rfl, _, hb', hcell'⟩ := HC'.out (by intro h0; rw [h0] at hlt'; simp at hlt')
      obtain ⟨x0, x1, x2⟩ := hcell k hlt
      obtain ⟨y0, y1, y2⟩ := hcell' k hlt'
      have hr := HR.out
      rw [List.drop_eq_getElem_cons hlt, List.drop_eq_getElem_cons hlt'] at hr
      obtain ⟨x, hx⟩ : ∃ x, m[k] = x := ⟨_, rfl⟩
      obtain ⟨y, hy⟩ : ∃ y, m'[k] = y := ⟨_, rfl⟩
      rw [hx] at x0 x1 x2 hr
      rw [hy] at y0 y1 y2 hr
      clear hx hy hcell hcell'
      by_cases hxy : x = y
      · subst hxy
        have HN : Hid (R = decide (m.drop (k + 1) = m'.drop (k + 1))) := by show _ = _; rw [hr]; simp
        clear hr
        go_wp2
        go_quiet (fail)
        go_wp2
        go_roundw
        case rel => exact ⟨k + 1, by simp, by omega, HN, _, rfl⟩
        case measure => simp [intOf]; omega
      · have HN : Hid (R = false) := by show _ = _; rw [hr]; simp [hxy]
        obtain ⟨xo, xa, xb⟩ := x
        obtain ⟨yo, ya, yb⟩ := y
        simp only at x0 x1 x2 y0 y1 y2
        clear hr
        by_cases e1 : xo = yo
        · subst e1
          by_cases e2 : xa = ya
          · subst e2
            have e3 : (xb == yb) = false := by rw [beq_eq_false_iff_ne]; intro e; apply hxy; rw [e]
            have e3' : decide (xb = yb) = false := by simpa using e3
            clear hxy
            go_wp2
            go_quiet (fail)
            go_wp2
            go_ret
            exact ⟨by rw [HN.out]; rfl, ⟨rfl, rfl, rfl, Nat.le_refl _, fun _ _ => rfl⟩⟩
          · have e3 : (xa == ya) = false := by simpa using e2
            have e3' : decide (xa = ya) = false := by simpa using e2
            clear hxy
            go_wp2
            go_quiet (fail)
            go_wp2
            go_ret
            exact ⟨by rw [HN.out]; rfl, ⟨rfl, rfl, rfl, Nat.le_refl _, fun _ _ => rfl⟩⟩
        · have e3 : (xo == yo) = false := by simpa using e1
          have e3' : decide (xo = yo) = false := by simpa using e1
          clear hxy
          go_wp2
          go_quiet (fail)
          go_wp2
          go_ret
          exact ⟨by rw [HN.out]; rfl, ⟨rfl, rfl, rfl, Nat.le_refl _, fun _ _ => rfl⟩⟩
    · have hge : (m.length : Int) ≤ (k : Int) := by omega
      have HN : Hid (R = true) := by show _ = _; rw [HR.out, List.drop_eq_nil_of_le (by omega), List.drop_eq_nil_of_le (by have := HL.out; omega)]; rfl
      go_wp2
      go_ret
      exact ⟨by rw [HN.out]; rfl, ⟨rfl, rfl, rfl, Nat.le_refl _, fun _ _ => rfl⟩⟩
end Go.Proofs.Ytlckjphnbfahgaa
namespace Go.Proofs.Ytlckjphnbfahgaa
open Go.RowKit
attribute [local go_sem] Oper.semAt_some
set_option maxRecDepth 100000 in
set_option maxHeartbeats 2000000 in
theorem sEqual_any {F G : Nat → Prop} (va vb : Value) (m m' : List ByteArray) (w : World) (ha : Cd.NameRow F w va m) (hb : Cd.NameRow G w vb m') (hl : m.length ≤ 140737488355328) (_hl' : m'.length ≤ 140737488355328) :
    Calls Try.prog 40 #[va, vb] w fun e w' => e = .returned (.bool (decide (m = m'))) ∧ Below w.heap.size w w' := by
  obtain ⟨a, c, rfl, _, hc⟩ := ha
  obtain ⟨a', c', rfl, _, hc'⟩ := hb
  obtain ⟨R, hR⟩ : ∃ R, R = decide (m = m') := ⟨_, rfl⟩
  rw [← hR]
  by_cases hlen : m.length = m'.length
  case neg =>
    have hne : ((m.length : Int) != (m'.length : Int)) = true := by simpa using fun h => hlen (by omega)
    have HR : Hid (R = false) := by show _ = _; rw [hR]; exact decide_eq_false (fun e => hlen (by rw [e]))
    clear hc hc' hR hlen
    go_enter Try.func40, Try.ntmps40
    go_wp2
    go_ret
    exact ⟨by rw [HR.out]; rfl, Below.refl _ _⟩
  have hne : ((m.length : Int) != (m'.length : Int)) = false := by simp [hlen]
  have H0 : Hid (R = decide (m.drop 0 = m'.drop 0)) := by show _ = _; rw [List.drop_zero, List.drop_zero]; exact hR
  have HC := Lib.hid hc
  have HC' := Lib.hid hc'
  have HL := Lib.hid hlen
  clear hc hc' hR hlen
  go_enter Try.func40, Try.ntmps40
  go_wp2
  go_loopw [13] (fun v wr => ∃ k : Nat, v = .int .i64 k ∧ k ≤ m.length ∧ Hid (R = decide (m.drop k = m'.drop k)) ∧ ∃ q, wr = w.drewN q) (fun v _ => m.length - (intOf v).toNat)
  case atStart => exact ⟨0, rfl, by omega, H0, 0, rfl⟩
  case round =>
    obtain ⟨k, rfl, hk, HR, q, rfl⟩ := hrel
    by_cases hlt : k < m.length
    · have hlti : (k : Int) < (m.length : Int) := by omega
      have hlt' : k < m'.length := by have := HL.out; omega
      have hlti' : (k : Int) < (m'.length : Int) := by omega
      obtain ⟨b, o, rfl, _, hb, hcell⟩ := HC.out (by intro h0; rw [h0] at hlt; simp at hlt)
      obtain ⟨b', o', rfl, _, hb', hcell'⟩ := HC'.out (by intro h0; rw [h0] at hlt'; simp at hlt')
      have x0 := hcell k hlt
      have y0 := hcell' k hlt'
      have hr := HR.out
      rw [List.drop_eq_getElem_cons hlt, List.drop_eq_getElem_cons hlt'] at hr
      obtain ⟨x, hx⟩ : ∃ x, m[k] = x := ⟨_, rfl⟩
      obtain ⟨y, hy⟩ : ∃ y, m'[k] = y := ⟨_, rfl⟩
      rw [hx] at x0 hr
      rw [hy] at y0 hr
      clear hx hy hcell hcell'
      by_cases hxy : x = y
      · subst hxy
        have hxe : (x != x) = false := by simp
        have hxt : (!x.toList == x.toList) = false := by simp
        have HN : Hid (R = decide (m.drop (k + 1) = m'.drop (k + 1))) := by show _ = _; rw [hr]; simp
        clear hr
        go_wp2
        go_quiet (fail)
        go_wp2
        go_roundw
        case rel => exact ⟨k + 1, by simp, by omega, HN, _, rfl⟩
        case measure => simp [intOf]; omega
      · have hxe : (x != y) = true := bne_iff_ne.2 hxy
        have hxt : (x.toList == y.toList) = false := by
          rw [ByteArray.toList_eq, ByteArray.toList_eq, beq_eq_false_iff_ne]
          intro e
          apply hxy
          cases x; cases y
          cases Array.toList_inj.1 e
          rfl
        have HN : Hid (R = false) := by show _ = _; rw [hr]; simp [hxy]
        clear hr hxy
        go_wp2
        go_quiet (fail)
        go_wp2
        go_ret
        exact ⟨by rw [HN.out]; rfl, ⟨rfl, rfl, rfl, Nat.le_refl _, fun _ _ => rfl⟩⟩
    · have hge : (m.length : Int) ≤ (k : Int) := by omega
      have HN : Hid (R = true) := by show _ = _; rw [HR.out, List.drop_eq_nil_of_le (by omega), List.drop_eq_nil_of_le (by have := HL.out; omega)]; rfl
      go_wp2
      go_ret
      exact ⟨by rw [HN.out]; rfl, ⟨rfl, rfl, rfl, Nat.le_refl _, fun _ _ => rfl⟩⟩
end Go.Proofs.Ytlckjphnbfahgaa
