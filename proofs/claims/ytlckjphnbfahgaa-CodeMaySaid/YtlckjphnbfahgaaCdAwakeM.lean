/-
  The program that answers 5: what it is, its text, how it lies; awake.
-/
import Derived.Test.YtlckjphnbfahgaaCdModel
import Derived.Test.YtlckjphnbfahgaaCdAt
import Derived.Test.YtlckjphnbfahgaaFixText
import Derived.Test.YtlckjphnbfahgaaDtCheck
import Derived.Test.YtlckjphnbfahgaaDtSingleK
import Derived.Lib.QuietBelow
import Derived.Lib.AppendStr
import Derived.Lib.UnsafeStr
import Derived.Test.YtlckjphnbfahgaaCdBytes
import Derived.Laws.BytesArg
import Derived.Test.YtlckjphnbfahgaaCdCheck
import Derived.Test.YtlckjphnbfahgaaDtEq
namespace Go.Proofs.Ytlckjphnbfahgaa
namespace Cd
def fiveD : Dt.D := .mk 1 5 ⟨#[]⟩ [] [] []
def fiveC (m : Int) : Code := ⟨0, 0, 0, m, [⟨1, 0, 0⟩, ⟨15, 0, 0⟩]⟩
def five (m : Int) : Prog := ⟨[fiveC m], [fiveD], []⟩
theorem five_wf (m : Int) (h : I64 m) : PWf (five m) := by
  refine ⟨(by show (1 : Nat) ≤ _; omega), (by show (1 : Nat) ≤ _; omega), (by show (0 : Nat) ≤ _; omega), ?_, fun s hs => (by cases hs), fun c hc => ?_⟩
  · refine ⟨⟨by decide, by decide, by decide, by decide, by decide, trivial, trivial⟩, trivial⟩
  · rw [five, List.mem_singleton] at hc
    subst hc
    refine ⟨(by show (-9223372036854775808 : Int) ≤ 0 ∧ (0 : Int) ≤ 9223372036854775807; omega), (by show (-9223372036854775808 : Int) ≤ 0 ∧ (0 : Int) ≤ 9223372036854775807; omega), (by show (-9223372036854775808 : Int) ≤ 0 ∧ (0 : Int) ≤ 9223372036854775807; omega), h, (by show (2 : Nat) ≤ _; omega), fun x hx => ?_⟩
    have h2 : x = ⟨1, 0, 0⟩ ∨ x = ⟨15, 0, 0⟩ := by simpa [fiveC] using hx
    rcases h2 with rfl | rfl
    · unfold I64; exact ⟨⟨by decide, by decide⟩, ⟨by decide, by decide⟩, ⟨by decide, by decide⟩⟩
    · unfold I64; exact ⟨⟨by decide, by decide⟩, ⟨by decide, by decide⟩, ⟨by decide, by decide⟩⟩
theorem five_plain : plainD fiveD = true := by kernel_rfl
theorem five_check : checkP (five 1) = 0 := by kernel_rfl
theorem five_check2 : checkP (five 2) = 90 := by kernel_rfl
theorem five_flow : flowW (fiveC 1).ins 0 (start 2) 0 = some ([0, 1], 1) := by kernel_rfl
end Cd
end Go.Proofs.Ytlckjphnbfahgaa
namespace Go.Proofs.Ytlckjphnbfahgaa
open Go.RowKit Go.Sort
attribute [local go_sem] Oper.semAt_some
namespace T5
/-- a word that lies in a box -/
structure TokAt (w : World) (b : Nat) (k n : Int) (s : ByteArray) : Prop where
  c0 : w.cell? ⟨b, 0, none⟩ = some (.int .i64 k)
  c3 : w.cell? ⟨b, 3, none⟩ = some (.int .i64 n)
  c4 : w.cell? ⟨b, 4, none⟩ = some (.string s)
  lt : b < w.heap.size
theorem TokAt.below {w w' : World} {b : Nat} {k n : Int} {s : ByteArray} (h : TokAt w b k n s) (hb : Below w.heap.size w w') : TokAt w' b k n s :=
  ⟨(hb.cell (p := ⟨b, 0, none⟩) h.lt).trans h.c0, (hb.cell (p := ⟨b, 3, none⟩) h.lt).trans h.c3, (hb.cell (p := ⟨b, 4, none⟩) h.lt).trans h.c4, Nat.lt_of_lt_of_le h.lt hb.size⟩
theorem bel3b (w : World) (a b c : Obj) : Below w.heap.size w (((w.alloc a).alloc b).alloc c) := ((((Below.refl _ _).alloc (Nat.le_refl _) a).alloc (by rw [World.size_alloc]; omega) b)).alloc (by rw [World.size_alloc, World.size_alloc]; omega) c
theorem bel2 (w : World) (a b : Obj) : Below w.heap.size w ((w.alloc a).alloc b) := ((Below.refl _ _).alloc (Nat.le_refl _) a).alloc (by rw [World.size_alloc]; omega) b
theorem start (w : World) (k a z n : Int) (s : ByteArray) : ∃ w3, ((w.alloc (.cells #[.int .i64 k, .int .i64 a, .int .i64 z, .int .i64 n, .string s] 118)).alloc (.cells #[.int .i64 0, .int .i64 0, .int .i64 0, .int .i64 0, .int .i64 0, .int .i64 0, .int .i64 0, .int .i64 0, .int .i64 0, .int .i64 1, .int .i64 2, .int .i64 3, .int .i64 4, .int .i64 5] 133)).alloc
    (.cells #[.string ⟨#[]⟩, .string ⟨#[40]⟩, .string ⟨#[41]⟩, .string ⟨#[35, 40]⟩, .string ⟨#[39]⟩, .string ⟨#[96]⟩, .string ⟨#[44]⟩, .string ⟨#[44, 64]⟩, .string ⟨#[46]⟩] 134) = w3 ∧
    TokAt w3 w.heap.size k n s ∧ Below w.heap.size w w3 ∧ w3.cell? ⟨w.heap.size + 1, 9, none⟩ = some (.int .i64 1) := by
  refine ⟨_, rfl, ?_, bel3b _ _ _ _, ?_⟩
  · obtain ⟨X, hX⟩ : ∃ X, w.alloc (.cells #[.int .i64 k, .int .i64 a, .int .i64 z, .int .i64 n, .string s] 118) = X := ⟨_, rfl⟩
    have hc := fun i v hv => Cd.cells_new w [.int .i64 k, .int .i64 a, .int .i64 z, .int .i64 n, .string s] _ hX i v hv
    have hT : TokAt X w.heap.size k n s := ⟨hc 0 _ rfl, hc 3 _ rfl, hc 4 _ rfl, by rw [← hX, World.size_alloc]; omega⟩
    rw [hX]
    exact hT.below (bel2 _ _ _)
  · obtain ⟨X, hX⟩ : ∃ X, w.alloc (.cells #[.int .i64 k, .int .i64 a, .int .i64 z, .int .i64 n, .string s] 118) = X := ⟨_, rfl⟩
    have hs : X.heap.size = w.heap.size + 1 := by rw [← hX, World.size_alloc]
    rw [hX]
    obtain ⟨Y, hY⟩ : ∃ Y, X.alloc (.cells #[.int .i64 0, .int .i64 0, .int .i64 0, .int .i64 0, .int .i64 0, .int .i64 0, .int .i64 0, .int .i64 0, .int .i64 0, .int .i64 1, .int .i64 2, .int .i64 3, .int .i64 4, .int .i64 5] 133) = Y := ⟨_, rfl⟩
    have hc := Cd.cells_new X [.int .i64 0, .int .i64 0, .int .i64 0, .int .i64 0, .int .i64 0, .int .i64 0, .int .i64 0, .int .i64 0, .int .i64 0, .int .i64 1, .int .i64 2, .int .i64 3, .int .i64 4, .int .i64 5] _ hY 9 _ rfl
    rw [hs] at hc
    rw [hY]
    exact (((Below.refl Y.heap.size Y).alloc (Nat.le_refl _) _).cell (p := ⟨w.heap.size + 1, 9, none⟩) (by rw [← hY, World.size_alloc]; show w.heap.size + 1 < _; omega)).trans hc
end T5
set_option maxRecDepth 100000 in
set_option maxHeartbeats 8000000 in
theorem text5_any (w : World) :
    Calls Try.prog 84 #[.agg #[.int .i64 9, .int .i64 0, .int .i64 0, .int .i64 5, .string ⟨#[]⟩]] w fun e w' => e = .returned (.tuple #[.string ⟨#[53]⟩, .int .i64 0]) ∧ Below w.heap.size w w' := by
  have hck : ∀ w, Calls Try.prog 52 #[.agg #[.int .i64 1, .int .i64 5, .string ⟨#[]⟩, .slice none 0 0, .slice none 0 0, .slice none 0 0]] w fun e w' => e = .returned (.int .i64 0) ∧ Below w.heap.size w w' := fun w => by
    have h := dCheck_any (F := fun _ => True) Cd.fiveD (.slice none 0 0) (.slice none 0 0) (.slice none 0 0) w (Cd.five_wf 1 ⟨by decide, by decide⟩).wk.1 ((Dt.rep_iff _ _ _ _ _ _).2 ⟨⟨none, 0, rfl, Nat.le_refl _, fun h => absurd rfl h⟩, ⟨none, 0, rfl, Nat.le_refl _, fun h => absurd rfl h⟩, ⟨none, 0, rfl, Nat.le_refl _, fun h => absurd rfl h⟩⟩)
    rw [show Dt.check Cd.fiveD = 0 by kernel_rfl] at h
    exact h
  obtain ⟨w3, hw3, hT, hb3, hk9⟩ := T5.start w 9 0 0 5 ⟨#[]⟩
  have HT := Lib.hid hT
  have HB3 := Lib.hid hb3
  obtain ⟨c0, c3, c4, cl⟩ := hT
  have q0 := cell_regrown c0
  have q3 := cell_regrown c3
  have q4 := cell_regrown c4
  have q9 := cell_regrown hk9
  clear cl hb3
  have cV : ∀ d os, Calls Try.prog 52 #[.agg #[.int .i64 1, .int .i64 5, .string ⟨#[]⟩, .slice none 0 0, .slice none 0 0, .slice none 0 0]] (grow (redrawn w3 d) os) fun e w'' => e = .returned (.int .i64 0) ∧ ∃ p : Regrown, w'' = grow (redrawn w3 p.d) p.os := fun d os => Calls.regrown_of (hck _)
  clear hck
  go_enter Try.func84, Try.ntmps84
  go_wp2
  refine wp_region_quiet_below (by kernel_rfl) (by kernel_rfl) ?_
  repeat (go_big_quiet_step (exact cV _ _))
  refine wpQuiet_nil ?_
  intro _ hw'
  obtain ⟨⟨dq, osq⟩, hw''⟩ := hw'
  subst hw''
  have hbq := below_regrown w3 dq osq
  obtain ⟨w4, hw4⟩ : ∃ w4, grow (redrawn w3 dq) osq = w4 := ⟨_, rfl⟩
  rw [hw4] at hbq ⊢
  have HB4 := Lib.hid (HB3.out.trans (hbq.mono HB3.out.size))
  have hT4 := HT.out.below hbq
  obtain ⟨t0, t3, t4, tl⟩ := hT4
  clear cV q0 q3 q4 q9 hw4 hbq tl c0 c3 c4 hk9 hw3
  have hF : Fx.isF 5 = true := by kernel_rfl
  have HF := Lib.hid hF
  have HD : Hid (Fx.textL 5 = [53]) := by show _ = _; kernel_rfl
  clear hF
  go_wp2_with (go_at_call 91; refine (Text_ok 5 _ HF.out).mono ?_; rintro e w5 ⟨rfl, hb5⟩)
  go_ret2
  exact ⟨by rw [HD.out]; rfl, HB4.out.trans (hb5.mono HB4.out.size)⟩
end Go.Proofs.Ytlckjphnbfahgaa
namespace Go.Proofs.Ytlckjphnbfahgaa
open Go.RowKit
attribute [local go_sem] Oper.semAt_some
set_option maxRecDepth 100000 in
set_option maxHeartbeats 4000000 in
theorem word5_any (B : Nat) (w : World) (hB : w.heap[B]? = some (.cells #[.slice none 0 0] 105 (0, 0))) :
    Calls Try.prog 76 #[.pointer (some ⟨B, 0, none⟩), .agg #[.int .i64 9, .int .i64 0, .int .i64 0, .int .i64 5, .string ⟨#[]⟩]] w fun e w' => e = .returned (.tuple #[]) ∧ (∃ a c, w'.cell? ⟨B, 0, none⟩ = some (.slice a 1 c) ∧ Cd.RowB w.heap.size w' a c [53]) ∧ Keep (fun k => k = B) w w' := by
  obtain ⟨i0, hi, hz0, hz1, hz2⟩ := info_parts Cd.infoB
  obtain ⟨w1, hw1⟩ : ∃ w1, w.alloc (.cells #[.int .i64 9, .int .i64 0, .int .i64 0, .int .i64 5, .string ⟨#[]⟩] 118) = w1 := ⟨_, rfl⟩
  obtain ⟨hb1, hs1, hbt⟩ := Cd.boxC hw1
  obtain ⟨q0, q1, q2, q3, q4⟩ := hbt w1 (Below.refl _ _)
  have hBl : B < w.heap.size := (Array.getElem?_eq_some_iff.1 hB).1
  have hB1 := (hb1.block B hBl).trans hB
  have ht := text5_any w1
  have HB1 := Lib.hid hb1
  clear hb1 hbt
  go_enter Try.func76, Try.ntmps76
  go_wp2_with (go_at_call 84; refine ht.mono ?_; clear ht hw1 q0 q1 q2 q3 q4; rintro e w2 ⟨rfl, hb2⟩; refine Hid.out ?_)
  refine Lib.hid ?_
  have hB2 := (hb2.block B (by omega)).trans hB1
  have c0 : w2.cell? ⟨B, 0, none⟩ = some (.slice none 0 0) := by rw [Lib.cell_of_heap hB2]; rfl
  have HB2 : Hid (Below w.heap.size w w2) := HB1.out.trans (hb2.mono (by omega))
  have hs2 := HB2.out.size
  have hown : w2.ownsRow w.heap.size 5 1 (.slice none 0 0) 0 [] := World.ownsRow_nil _ _ _ _
  clear hb2
  go_wp2_with (at_builtin; refine Lib.wpList_append_own_string _ rfl _ _ 49 9 rfl w.heap.size 5 i0 Try.underlying49 Try.underlying9 hi hz0 hz1 hz2 _ _ _ rfl hown ⟨#[53]⟩ rfl (by decide) (by decide) hs2 ?_)
  intro v' w3 hown' hgrow _
  obtain ⟨a3, c3, rfl⟩ := Dt.row_form hown'
  have hB3 := (hgrow.block B (by omega) (by intro e; cases e)).trans hB2
  have d0 : w3.cell? ⟨B, 0, none⟩ = some (.slice none 0 0) := by rw [Lib.cell_of_heap hB3]; rfl
  have f0 : w3.frozen? ⟨B, 0, none⟩ = false := Lib.frozen_of_heap hB3 0
  have hlt := fun k e => (hown'.lt k e).1
  have HR : Hid (Cd.RowB w.heap.size (w3.setCell ⟨B, 0, none⟩ (.slice a3 1 c3)) a3 c3 [53]) := by
    show World.ownsRow _ _ _ _ _ _ _
    exact Keep.own (S := fun k => k = B) hown' ((Keep.refl (fun k => k = B) w3).setCell rfl 0 _) (fun k hk => hk ▸ hBl)
  have HC : Hid ((w3.setCell ⟨B, 0, none⟩ (.slice a3 1 c3)).cell? ⟨B, 0, none⟩ = some (.slice a3 1 c3)) := by
    show _ = _
    exact World.cell?_setCell_same _ _ _ d0
  have HK : Hid (Keep (fun k => k = B) w (w3.setCell ⟨B, 0, none⟩ (.slice a3 1 c3))) := by
    have h23 : Below w.heap.size w w3 := HB2.out.grown hgrow hs2 (fun k e => by cases e)
    exact ((Keep.refl (fun k => k = B) w).below h23).setCell rfl 0 _
  clear hown' hgrow hB hB1 hB2 hB3 hown
  go_wp2
  go_end0
  exact ⟨rfl, ⟨a3, c3, HC.out, HR.out⟩, HK.out⟩
theorem boxD {w w1 : World} {x0 x1 x2 x3 x4 x5 : Value} {t : TypeId} (h : w.alloc (.cells #[x0, x1, x2, x3, x4, x5] t) = w1) : Below w.heap.size w w1 ∧ w1.heap.size = w.heap.size + 1 ∧ w1.cell? ⟨w.heap.size, 0, none⟩ = some x0 ∧ w1.cell? ⟨w.heap.size, 1, none⟩ = some x1 ∧ w1.cell? ⟨w.heap.size, 2, none⟩ = some x2 ∧ w1.cell? ⟨w.heap.size, 3, none⟩ = some x3 ∧ w1.cell? ⟨w.heap.size, 4, none⟩ = some x4 ∧ w1.cell? ⟨w.heap.size, 5, none⟩ = some x5 := by
  obtain ⟨hb, hs⟩ := Cd.below_new (Below.refl _ w) h (Nat.le_refl _)
  have hc := fun i v hv => Cd.cells_new w [x0, x1, x2, x3, x4, x5] t h i v hv
  exact ⟨hb, hs, hc 0 _ rfl, hc 1 _ rfl, hc 2 _ rfl, hc 3 _ rfl, hc 4 _ rfl, hc 5 _ rfl⟩
set_option maxRecDepth 100000 in
theorem quoted5_any (am al at_ : Option Addr) (cm cl ct : Nat) (w : World) :
    Calls Try.prog 75 #[.agg #[.int .i64 1, .int .i64 5, .string ⟨#[]⟩, .slice am 0 cm, .slice al 0 cl, .slice at_ 0 ct]] w fun e w' => e = .returned (.int .i64 0) ∧ Below w.heap.size w w' := by
  obtain ⟨w1, hw1⟩ : ∃ w1, w.alloc (.cells #[.int .i64 1, .int .i64 5, .string ⟨#[]⟩, .slice am 0 cm, .slice al 0 cl, .slice at_ 0 ct] 55) = w1 := ⟨_, rfl⟩
  obtain ⟨hb1, -, q0, q1, q2, q3, q4, q5⟩ := boxD hw1
  have HB1 := Lib.hid hb1
  clear hb1
  go_enter Try.func75, Try.ntmps75
  go_wp2
  go_ret
  exact ⟨rfl, HB1.out⟩
set_option maxRecDepth 100000 in
set_option maxHeartbeats 4000000 in
theorem put5_any (am al at_ : Option Addr) (cm cl ct : Nat) (B : Nat) (w : World) (hB : w.heap[B]? = some (.cells #[.slice none 0 0] 105 (0, 0))) :
    Calls Try.prog 67 #[.pointer (some ⟨B, 0, none⟩), .agg #[.int .i64 1, .int .i64 5, .string ⟨#[]⟩, .slice am 0 cm, .slice al 0 cl, .slice at_ 0 ct]] w fun e w' => e = .returned (.tuple #[]) ∧ (∃ a c, w'.cell? ⟨B, 0, none⟩ = some (.slice a 1 c) ∧ Cd.RowB w.heap.size w' a c [53]) ∧ Keep (fun k => k = B) w w' := by
  obtain ⟨w1, hw1⟩ : ∃ w1, w.alloc (.cells #[.int .i64 1, .int .i64 5, .string ⟨#[]⟩, .slice am 0 cm, .slice al 0 cl, .slice at_ 0 ct] 55) = w1 := ⟨_, rfl⟩
  obtain ⟨hb1, hs1, q0, q1, q2, q3, q4, q5⟩ := boxD hw1
  have hBl : B < w.heap.size := (Array.getElem?_eq_some_iff.1 hB).1
  have hB1 := (hb1.block B hBl).trans hB
  have hq := quoted5_any am al at_ cm cl ct w1
  have HB1 := Lib.hid hb1
  have HBB := Lib.hid hB1
  have HQ : Hid (∀ W, Below w1.heap.size w1 W → W.cell? ⟨w.heap.size, 0, none⟩ = some (.int .i64 1) ∧ W.cell? ⟨w.heap.size, 1, none⟩ = some (.int .i64 5)) := fun W hW => ⟨(hW.cell (p := ⟨w.heap.size, 0, none⟩) (by show w.heap.size < _; omega)).trans q0, (hW.cell (p := ⟨w.heap.size, 1, none⟩) (by show w.heap.size < _; omega)).trans q1⟩
  have HS := Lib.hid (show B < w1.heap.size by omega)
  clear hb1 hB hB1 hBl hs1
  go_enter Try.func67, Try.ntmps67
  go_wp2_with (first | (go_at_call 75; refine hq.mono ?_; clear hq hw1 q0 q1 q2 q3 q4 q5; rintro e w2 ⟨rfl, hb2⟩; obtain ⟨q0, q1⟩ := HQ.out w2 hb2; have hwd := word5_any B w2 ((hb2.block B HS.out).trans HBB.out); have HB2 := Lib.hid (HB1.out.trans (hb2.mono HB1.out.size)); clear hb2) | (go_at_call 76; refine hwd.mono ?_; clear hwd q0 q1; rintro e w3 ⟨rfl, ⟨a3, c3, hc3, hr3⟩, hk3⟩; have HC3 := Lib.hid hc3; have HR3 := Lib.hid hr3; have HK3 := Lib.hid hk3; clear hc3 hr3 hk3))
  go_end0
  refine ⟨rfl, ⟨a3, c3, HC3.out, ?_⟩, ((Keep.refl (fun k => k = B) w).below HB2.out).trans HK3.out⟩
  obtain ⟨h1, h2⟩ := HR3.out
  refine ⟨h1, h2.elim .inl (fun h3 => ?_)⟩
  obtain ⟨g, cap, cur, e1, e2, e3⟩ := h3
  exact .inr ⟨g, cap, cur, e1, Nat.le_trans HB2.out.size e2, e3⟩
set_option maxRecDepth 100000 in
theorem conv_bytes {w : World} {base : Nat} {a : Option Addr} {c : Nat} (l : List UInt8) (h : Cd.RowB base w a c l) :
    (convert 49 9 (.slice a l.length c)).run Try.prog w = .ok (.string ⟨l.toArray⟩) w := by
  have h0 : w.ownsRow base 5 1 (.slice a l.length c) l.length (Lib.byteCells l) := h
  obtain ⟨_, h1⟩ := h
  rcases h1 with ⟨e, hn⟩ | ⟨g, cap, cur, e, _, _, _, _, _, _⟩
  · have : l = [] := List.eq_nil_of_length_eq_zero hn
    subst this
    cases e
    have := run_convert_bytes_nil (P := Try.prog) w 49 5 Try.underlying49 Try.underlying5 0 0 9 Try.underlying9
    exact this
  · cases e
    have hr := run_convert_bytes_arg (P := Try.prog) w 49 5 Try.underlying49 Try.underlying5 g 0 l.length c (l.map fun c => (c.toNat : Int)) (by simp) (fun i hi => by
      rw [Nat.zero_add, h0.cellAt i (by omega)]
      simp [Lib.byteCells, List.getD, List.getElem?_eq_getElem hi]) 9 Try.underlying9
    rw [hr]
    congr 2
    unfold strOfNums
    rw [List.map_map]
    congr 2
    conv => rhs; rw [← List.map_id l]
    apply List.map_congr_left
    intro c _
    simp [Function.comp]
set_option maxRecDepth 100000 in
set_option maxHeartbeats 4000000 in
theorem print5_any {F : Nat → Prop} (am al at_ : Option Addr) (cm cl ct : Nat) (w : World) (hR : Dt.Rep F w Cd.fiveD (.slice am 0 cm) (.slice al 0 cl) (.slice at_ 0 ct)) :
    Calls Try.prog 45 #[.agg #[.int .i64 1, .int .i64 5, .string ⟨#[]⟩, .slice am 0 cm, .slice al 0 cl, .slice at_ 0 ct]] w fun e w' => e = .returned (.tuple #[.string ⟨#[53]⟩, .int .i64 0]) ∧ Below w.heap.size w w' := by
  obtain ⟨w1, hw1⟩ : ∃ w1, w.alloc (.cells #[.int .i64 1, .int .i64 5, .string ⟨#[]⟩, .slice am 0 cm, .slice al 0 cl, .slice at_ 0 ct] 55) = w1 := ⟨_, rfl⟩
  obtain ⟨hb1, hs1, q0, q1, q2, q3, q4, q5⟩ := boxD hw1
  have hck := dCheck_any Cd.fiveD _ _ _ w1 (Cd.five_wf 1 ⟨by decide, by decide⟩).wk.1 (hR.below hb1)
  rw [show Dt.check Cd.fiveD = 0 by kernel_rfl] at hck
  have hck2 : Calls Try.prog 52 #[.agg #[.int .i64 1, .int .i64 5, .string ⟨#[]⟩, .slice am 0 cm, .slice al 0 cl, .slice at_ 0 ct]] w1 fun e w' => e = .returned (.int .i64 0) ∧ Below w1.heap.size w1 w' := hck
  have HQ : Hid (∀ W, Below w1.heap.size w1 W → W.cell? ⟨w.heap.size, 0, none⟩ = some (.int .i64 1) ∧ W.cell? ⟨w.heap.size, 1, none⟩ = some (.int .i64 5) ∧ W.cell? ⟨w.heap.size, 2, none⟩ = some (.string ⟨#[]⟩) ∧ W.cell? ⟨w.heap.size, 3, none⟩ = some (.slice am 0 cm) ∧ W.cell? ⟨w.heap.size, 4, none⟩ = some (.slice al 0 cl) ∧ W.cell? ⟨w.heap.size, 5, none⟩ = some (.slice at_ 0 ct)) := fun W hW =>
    have hl : w.heap.size < w1.heap.size := by omega
    ⟨(hW.cell (p := ⟨w.heap.size, 0, none⟩) hl).trans q0, (hW.cell (p := ⟨w.heap.size, 1, none⟩) hl).trans q1, (hW.cell (p := ⟨w.heap.size, 2, none⟩) hl).trans q2, (hW.cell (p := ⟨w.heap.size, 3, none⟩) hl).trans q3, (hW.cell (p := ⟨w.heap.size, 4, none⟩) hl).trans q4, (hW.cell (p := ⟨w.heap.size, 5, none⟩) hl).trans q5⟩
  have HB1 := Lib.hid hb1
  clear hb1 hck hs1
  go_enter Try.func45, Try.ntmps45
  go_upto_region 4 with (go_at_call 52; refine hck2.mono ?_; clear hck2 hw1 q0 q1 q2 q3 q4 q5; rintro e w2 ⟨rfl, hb2⟩; have HB2 := Lib.hid hb2; clear hb2)
  obtain ⟨w3, hw3⟩ : ∃ w3, w2.alloc (.cells #[.slice none 0 0] 105) = w3 := ⟨_, rfl⟩
  obtain ⟨hb3, hs3⟩ := Cd.below_new (Below.refl _ w2) hw3 (Nat.le_refl _)
  have hB3 : w3.heap[w2.heap.size]? = some (.cells #[.slice none 0 0] 105 (0, 0)) := by rw [← hw3]; exact heap_alloc_new w2 _
  have hpt := put5_any am al at_ cm cl ct _ w3 hB3
  obtain ⟨q0, q1, q2, q3, q4, q5⟩ := HQ.out w3 (HB2.out.trans (hb3.mono HB2.out.size))
  have HB3 : Hid (Below w.heap.size w w3) := HB1.out.trans ((HB2.out.trans (hb3.mono HB2.out.size)).mono HB1.out.size)
  have HS2 : Hid (w.heap.size ≤ w2.heap.size) := Nat.le_trans HB1.out.size HB2.out.size
  clear hb3 hB3 hs3
  go_upto_region 8 with (go_at_call 67; refine hpt.mono ?_; clear hpt hw3 q0 q1 q2 q3 q4 q5; rintro e w4 ⟨rfl, ⟨a4, c4, c0, hr4⟩, hk4⟩; have HR4 := Lib.hid hr4; have HB4 : Hid (Below w.heap.size w w4) := HB3.out.trans (hk4.to_below (fun k hk => by have := HS2.out; omega) HB3.out.size); clear hr4 hk4)
  have hcv := conv_bytes [53] HR4.out
  have hcv2 : (convert 49 9 (.slice a4 1 c4)).run Try.prog w4 = .ok (.string ⟨#[53]⟩) w4 := hcv
  clear hcv
  go_wp2
  go_ret2
  exact ⟨rfl, HB4.out⟩
theorem Cd.five_text : Cd.HasText (fun _ => ⟨#[53]⟩) Cd.fiveD := by
  refine ⟨by decide, fun F vm vl vt w h => ?_⟩
  obtain ⟨⟨am, cm, e1, h1⟩, ⟨al, cl, e2, h2⟩, ⟨at_, ct, e3, h3⟩⟩ := (Dt.rep_iff _ _ _ _ _ _).1 h
  have f1 : vm = .slice am 0 cm := e1
  have f2 : vl = .slice al 0 cl := e2
  have f3 : vt = .slice at_ 0 ct := e3
  subst f1 f2 f3
  exact print5_any am al at_ cm cl ct w h
end Go.Proofs.Ytlckjphnbfahgaa
namespace Go.Proofs.Ytlckjphnbfahgaa
open Go.RowKit
attribute [local go_sem] Oper.semAt_some
namespace Cd
/-- the blocks of five -/
structure FiveAt (w : World) (A B C : Nat) (m : Int) : Prop where
  ha : w.heap[A]? = some (.cells #[.int .i64 1, .int .i64 5, .string ⟨#[]⟩, .slice none 0 0, .slice none 0 0, .slice none 0 0] 55 (0, 0))
  hb : w.heap[B]? = some (.cells #[.int .i64 1, .int .i64 0, .int .i64 0, .int .i64 15, .int .i64 0, .int .i64 0] 41 (0, 0))
  hc : w.heap[C]? = some (.cells #[.int .i64 0, .int .i64 0, .int .i64 0, .int .i64 m, .slice (some ⟨B, 0, none⟩) 2 2] 39 (0, 0))
theorem cellAt {w : World} {b : Nat} {cs : Array Value} {t : TypeId} (h : w.heap[b]? = some (.cells cs t (0, 0))) (i : Nat) : w.cell? ⟨b, i, none⟩ = cs[i]? := by
  rw [Lib.cell_of_heap h]
theorem lt_of {w : World} {b : Nat} {o : Obj} (h : w.heap[b]? = some o) : b < w.heap.size := (Array.getElem?_eq_some_iff.1 h).1
theorem FiveAt.rep {w : World} {A B C : Nat} {m : Int} (h : FiveAt w A B C m) : PRep (fun _ => True) w (five m) (.slice (some ⟨C, 0, none⟩) 1 1) (.slice (some ⟨A, 0, none⟩) 1 1) (.slice none 0 0) := by
  have hA := cellAt h.ha
  have hB := cellAt h.hb
  have hC := cellAt h.hc
  refine ⟨⟨_, _, rfl, Nat.le_refl _, fun _ => ⟨C, 0, rfl, trivial, lt_of h.hc, fun j hj => ?_⟩⟩, ⟨_, _, rfl, Nat.le_refl _, fun _ => ⟨A, 0, rfl, trivial, lt_of h.ha, Dt.Reps.of fun j hj => ?_⟩⟩, ⟨_, _, rfl, Nat.le_refl _, fun h => absurd rfl h⟩⟩
  · obtain rfl : j = 0 := by simpa [five] using hj
    refine ⟨hC 0, hC 1, hC 2, hC 3, _, hC 4, ⟨_, _, rfl, Nat.le_refl _, fun _ => ⟨B, 0, rfl, trivial, lt_of h.hb, fun j hj => ?_⟩⟩⟩
    have hj2 : j < 2 := hj
    match j, hj2 with
    | 0, _ => exact ⟨hB 0, hB 1, hB 2⟩
    | 1, _ => exact ⟨hB 3, hB 4, hB 5⟩
  · obtain rfl : j = 0 := by simpa [five] using hj
    refine ⟨.slice none 0 0, .slice none 0 0, .slice none 0 0, ⟨hA 0, hA 1, hA 2, hA 3, hA 4, hA 5⟩, (Dt.rep_iff _ _ _ _ _ _).2 ⟨⟨none, 0, rfl, Nat.le_refl _, fun h => absurd rfl h⟩, ⟨none, 0, rfl, Nat.le_refl _, fun h => absurd rfl h⟩, ⟨none, 0, rfl, Nat.le_refl _, fun h => absurd rfl h⟩⟩⟩
end Cd
set_option maxRecDepth 100000 in
set_option maxHeartbeats 4000000 in
theorem five_any (w : World) :
    Calls Try.prog 19 #[] w fun e w' => ∃ A B C, e = .returned (.agg #[.slice (some ⟨C, 0, none⟩) 1 1, .slice (some ⟨A, 0, none⟩) 1 1, .slice none 0 0]) ∧ Cd.FiveAt w' A B C 1 ∧ A ≠ C ∧ B ≠ C ∧ w.heap.size ≤ C ∧ Below w.heap.size w w' := by
  obtain ⟨w1, hw1⟩ : ∃ w1, w.alloc (.cells #[.slice none 0 0, .slice none 0 0, .slice none 0 0] 26) = w1 := ⟨_, rfl⟩
  obtain ⟨hb1, hs1, hbp⟩ := Cd.boxP hw1
  obtain ⟨w2, hw2⟩ : ∃ w2, w1.alloc (.cells #[.int .i64 1, .int .i64 5, .string ⟨#[]⟩, .slice none 0 0, .slice none 0 0, .slice none 0 0] 55) = w2 := ⟨_, rfl⟩
  obtain ⟨w3, hw3⟩ : ∃ w3, w2.alloc (.cells #[.int .i64 1, .int .i64 0, .int .i64 0, .int .i64 15, .int .i64 0, .int .i64 0] 41) = w3 := ⟨_, rfl⟩
  obtain ⟨w4, hw4⟩ : ∃ w4, w3.alloc (.cells #[.int .i64 0, .int .i64 0, .int .i64 0, .int .i64 1, .slice (some ⟨w2.heap.size, 0, none⟩) 2 2] 39) = w4 := ⟨_, rfl⟩
  obtain ⟨hb2, hs2⟩ := Cd.below_new (Below.refl _ w1) hw2 (Nat.le_refl _)
  obtain ⟨hb3, hs3⟩ := Cd.below_new (Below.refl _ w2) hw3 (Nat.le_refl _)
  obtain ⟨hb4, hs4⟩ := Cd.below_new (Below.refl _ w3) hw4 (Nat.le_refl _)
  have hR1 : w1.heap[w.heap.size]? = some (.cells #[.slice none 0 0, .slice none 0 0, .slice none 0 0] 26 (0, 0)) := by rw [← hw1]; exact heap_alloc_new w _
  have hA2 : w2.heap[w1.heap.size]? = some (.cells #[.int .i64 1, .int .i64 5, .string ⟨#[]⟩, .slice none 0 0, .slice none 0 0, .slice none 0 0] 55 (0, 0)) := by rw [← hw2]; exact heap_alloc_new w1 _
  have hB3 : w3.heap[w2.heap.size]? = some (.cells #[.int .i64 1, .int .i64 0, .int .i64 0, .int .i64 15, .int .i64 0, .int .i64 0] 41 (0, 0)) := by rw [← hw3]; exact heap_alloc_new w2 _
  have hC4 : w4.heap[w3.heap.size]? = some (.cells #[.int .i64 0, .int .i64 0, .int .i64 0, .int .i64 1, .slice (some ⟨w2.heap.size, 0, none⟩) 2 2] 39 (0, 0)) := by rw [← hw4]; exact heap_alloc_new w3 _
  have hR4 := (hb4.block _ (by omega)).trans ((hb3.block _ (by omega)).trans ((hb2.block _ (by omega)).trans hR1))
  have hA4 := (hb4.block _ (by omega)).trans ((hb3.block _ (by omega)).trans hA2)
  have hB4 := (hb4.block _ (by omega)).trans hB3
  have hb14 := hb1.trans ((hb2.trans ((hb3.trans (hb4.mono hb3.size)).mono hb2.size)).mono hb1.size)
  have p0 : w4.cell? ⟨w.heap.size, 0, none⟩ = some (.slice none 0 0) := by rw [Cd.cellAt hR4]; rfl
  have p1 : w4.cell? ⟨w.heap.size, 1, none⟩ = some (.slice none 0 0) := by rw [Cd.cellAt hR4]; rfl
  have p2 : w4.cell? ⟨w.heap.size, 2, none⟩ = some (.slice none 0 0) := by rw [Cd.cellAt hR4]; rfl
  have f0 : w4.frozen? ⟨w.heap.size, 0, none⟩ = false := Lib.frozen_of_heap hR4 0
  have f1 : w4.frozen? ⟨w.heap.size, 1, none⟩ = false := Lib.frozen_of_heap hR4 1
  have f2 : w4.frozen? ⟨w.heap.size, 2, none⟩ = false := Lib.frozen_of_heap hR4 2
  obtain ⟨w5, hw5⟩ : ∃ w5, ((w4.setCell ⟨w.heap.size, 0, none⟩ (.slice (some ⟨w3.heap.size, 0, none⟩) 1 1)).setCell ⟨w.heap.size, 1, none⟩ (.slice (some ⟨w1.heap.size, 0, none⟩) 1 1)).setCell ⟨w.heap.size, 2, none⟩ (.slice none 0 0) = w5 := ⟨_, rfl⟩
  have hk5 : Keep (fun k => k = w.heap.size) w4 w5 := by
    rw [← hw5]
    exact (((Keep.refl (fun k => k = w.heap.size) w4).setCell rfl 0 _).setCell rfl 1 _).setCell rfl 2 _
  have HB5 : Hid (Below w.heap.size w w5) := hb14.trans (hk5.to_below (fun k hk => by omega) hb14.size)
  have HF : Hid (Cd.FiveAt w5 w1.heap.size w2.heap.size w3.heap.size 1) := ⟨(hk5.block _ (by omega) (by omega)).trans hA4, (hk5.block _ (by omega) (by omega)).trans hB4, (hk5.block _ (by omega) (by omega)).trans hC4⟩
  have HS : Hid (w1.heap.size ≠ w3.heap.size ∧ w2.heap.size ≠ w3.heap.size ∧ w.heap.size ≤ w3.heap.size) := ⟨by omega, by omega, by omega⟩
  have z0 : w5.cell? ⟨w.heap.size, 0, none⟩ = some (.slice (some ⟨w3.heap.size, 0, none⟩) 1 1) := by
    rw [← hw5]
    rw [World.cell?_setCell_other _ _ _ _ (by intro e; cases e), World.cell?_setCell_other _ _ _ _ (by intro e; cases e)]
    exact World.cell?_setCell_same _ _ _ p0
  have z1 : w5.cell? ⟨w.heap.size, 1, none⟩ = some (.slice (some ⟨w1.heap.size, 0, none⟩) 1 1) := by
    rw [← hw5]
    rw [World.cell?_setCell_other _ _ _ _ (by intro e; cases e)]
    exact World.cell?_setCell_same _ _ _ ((World.cell?_setCell_other _ _ _ _ (by intro e; cases e)).trans p1)
  have z2 : w5.cell? ⟨w.heap.size, 2, none⟩ = some (.slice none 0 0) := by
    rw [← hw5]
    exact World.cell?_setCell_same _ _ _ ((World.cell?_setCell_other _ _ _ _ (by intro e; cases e)).trans ((World.cell?_setCell_other _ _ _ _ (by intro e; cases e)).trans p2))
  obtain ⟨A, hA⟩ : ∃ A, w1.heap.size = A := ⟨_, rfl⟩
  obtain ⟨B, hB⟩ : ∃ B, w2.heap.size = B := ⟨_, rfl⟩
  obtain ⟨C, hC⟩ : ∃ C, w3.heap.size = C := ⟨_, rfl⟩
  rw [hA, hB, hC] at HF
  rw [hA, hB, hC] at HS
  rw [hB] at hw4
  rw [hC, hA] at hw5
  rw [hC] at z0
  rw [hA] at z1
  clear hb1 hs1 hbp hb2 hs2 hb3 hs3 hb4 hs4 hR1 hA2 hB3 hC4 hR4 hA4 hB4 hb14 hk5
  go_enter Try.func19, Try.ntmps19
  go_wp2
  exact bodyPost_ret (v := .agg #[.slice (some ⟨C, 0, none⟩) 1 1, .slice (some ⟨A, 0, none⟩) 1 1, .slice none 0 0]) (by simp [results, Try.results19, go_sem, z0, z1, z2]) rfl ⟨A, B, C, rfl, HF.out, HS.out.1, HS.out.2.1, HS.out.2.2, HB5.out⟩
end Go.Proofs.Ytlckjphnbfahgaa
namespace Go.Proofs.Ytlckjphnbfahgaa
open Go.RowKit
attribute [local go_sem] Oper.semAt_some
namespace Cd
/-- what Depths answers -/
def DepthsPost (p : Prog) (k : Int) (w : World) (e : Ending) (w' : World) : Prop :=
  if checkP p ≠ 0 then e = .returned (.tuple #[.slice none 0 0, .int .i64 (checkP p)]) ∧ Below w.heap.size w w'
  else if k < 0 ∨ (p.codes.length : Int) ≤ k then e = .returned (.tuple #[.slice none 0 0, .int .i64 6]) ∧ Below w.heap.size w w'
  else ∃ (c : Code) (fin : List Int) (g : Nat), p.codes[k.toNat]? = some c ∧ flowW c.ins 0 (start c.ins.length) 0 = some (fin, c.max) ∧ fin.length = c.ins.length ∧ e = .returned (.tuple #[.slice (some ⟨g, 0, none⟩) fin.length fin.length, .int .i64 0]) ∧ w'.ownsRow w.heap.size 3 1 (.slice (some ⟨g, 0, none⟩) fin.length fin.length) fin.length (fin.map (Value.int .i64)) ∧ Below w.heap.size w w'
end Cd
set_option maxRecDepth 100000 in
set_option maxHeartbeats 8000000 in
theorem depths_any {F : Nat → Prop} (p : Cd.Prog) (k : Int) (vc vk vn : Value) (w : World) (hp : Cd.PRep F w p vc vk vn) (hw : Cd.PWf p) :
    Calls Try.prog 9 #[.agg #[vc, vk, vn], .int .i64 k] w (Cd.DepthsPost p k w) := by
  obtain ⟨a1, c1, a2, c2, a3, c3, rfl, rfl, rfl⟩ := hp.forms
  obtain ⟨w1, hw1⟩ : ∃ w1, w.alloc (.cells #[.slice a1 p.codes.length c1, .slice a2 p.consts.length c2, .slice a3 p.names.length c3] 26) = w1 := ⟨_, rfl⟩
  obtain ⟨hb1, hs1, hbp⟩ := Cd.boxP hw1
  obtain ⟨p0, p1, p2⟩ := hbp w1 (Below.refl _ _)
  have hck := check_any p _ _ _ w1 (hp.below hb1) hw
  have HP := Lib.hid hp
  have HB1 := Lib.hid hb1
  have HBP := Lib.hid hbp
  obtain ⟨R, hR⟩ : ∃ R, Cd.checkP p = R := ⟨_, rfl⟩
  have hD : Cd.DepthsPost p k w = fun e w' => Cd.DepthsPost p k w e w' := rfl
  unfold Cd.DepthsPost
  rw [hR] at hck ⊢
  by_cases h0 : R = 0
  case neg =>
    have h0' : (R != 0) = true := bne_iff_ne.2 h0
    simp only [if_pos (show R ≠ 0 from h0)]
    clear hp hw hb1 hbp hR h0 hD
    go_enter Try.func9, Try.ntmps9
    go_wp2_with (go_at_call 11; refine hck.mono ?_; clear hck hw1 p0 p1 p2; rintro e w2 ⟨rfl, hb2⟩; have HB2 := Lib.hid hb2; clear hb2)
    go_ret2
    exact ⟨rfl, HB1.out.trans (HB2.out.mono HB1.out.size)⟩
  simp only [if_neg (show ¬ R ≠ 0 from fun h => h h0)]
  subst h0
  by_cases h1 : k < 0 ∨ (p.codes.length : Int) ≤ k
  · simp only [if_pos h1]
    clear hD hR
    by_cases h2 : k < 0
    · have h2' : decide (k < 0) = true := decide_eq_true h2
      clear hp hw hb1 hbp h1
      go_enter Try.func9, Try.ntmps9
      go_wp2_with (go_at_call 11; refine hck.mono ?_; clear hck hw1 p0 p1 p2; rintro e w2 ⟨rfl, hb2⟩; have HB2 := Lib.hid hb2; obtain ⟨p0, p1, p2⟩ := HBP.out w2 hb2; clear hb2)
      go_ret2
      exact ⟨rfl, HB1.out.trans (HB2.out.mono HB1.out.size)⟩
    · have h2' : decide (k < 0) = false := decide_eq_false h2
      have h3' : decide ((p.codes.length : Int) ≤ k) = true := decide_eq_true (by omega)
      clear hp hw hb1 hbp h1 h2
      go_enter Try.func9, Try.ntmps9
      go_wp2_with (go_at_call 11; refine hck.mono ?_; clear hck hw1 p0 p1 p2; rintro e w2 ⟨rfl, hb2⟩; have HB2 := Lib.hid hb2; obtain ⟨p0, p1, p2⟩ := HBP.out w2 hb2; clear hb2)
      go_ret2
      exact ⟨rfl, HB1.out.trans (HB2.out.mono HB1.out.size)⟩
  · simp only [if_neg h1]
    obtain ⟨j, rfl⟩ : ∃ j : Nat, k = (j : Int) := ⟨k.toNat, by omega⟩
    have hj : j < p.codes.length := by omega
    have hji : (j : Int) < (p.codes.length : Int) := by omega
    have h3' : decide ((p.codes.length : Int) ≤ (j : Int)) = false := decide_eq_false (by omega)
    have hj0 : (0 : Int) ≤ (j : Int) := by omega
    obtain ⟨-, -, hg⟩ := Cd.check_codes hR
    have hgd := Cd.good_good (hg p.codes[j] (List.getElem_mem hj))
    obtain ⟨fin, hfin⟩ := hgd.flow
    obtain ⟨b, o, rfl, -, hbl, -, -, -, -, vi, x4, hi⟩ := Cd.code_at hp.codes j hj
    obtain ⟨ai, ci, rfl⟩ := hi.form
    have hpos : ∀ x ∈ p.codes[j].ins, (Cd.op x.o).a = 5 → 0 ≤ x.a := fun x hx e => by
      obtain ⟨i, hi2, rfl⟩ := List.getElem_of_mem hx
      have h4 := (hgd.ins i hi2).lo
      rw [e] at h4
      have h5 : (i : Int) + 1 ≤ p.codes[j].ins[i].a := h4
      omega
    have hl1 : 1 ≤ p.codes[j].ins.length := List.length_pos_iff.2 hgd.ne
    have hl2 := hgd.len
    obtain ⟨c, hc⟩ : ∃ c, c = p.codes[j] := ⟨_, rfl⟩
    have HCE : Hid (p.codes[j]? = some c) := by show _ = _; rw [hc, List.getElem?_eq_getElem hj]
    rw [← hc] at hfin x4 hi hpos hl1 hl2
    have HI := Lib.hid hi
    have HFIN := Lib.hid hfin
    have HPOS := Lib.hid hpos
    have HL : Hid (1 ≤ c.ins.length ∧ c.ins.length ≤ 4096) := ⟨hl1, hl2⟩
    have HX4 : Hid (∀ W, Below w1.heap.size w1 W → W.cell? ⟨b, o + j * 5 + 4, none⟩ = some (.slice ai c.ins.length ci)) := fun W hW => ((hb1.trans (hW.mono hb1.size)).cell (p := ⟨b, o + j * 5 + 4, none⟩) hbl).trans x4
    clear hp hw hb1 hbp h1 hD hR hg hgd hc hfin x4 hi hpos hl1 hl2 hbl
    go_enter Try.func9, Try.ntmps9
    go_wp2_with (first | (go_at_call 11; refine hck.mono ?_; clear hck hw1 p0 p1 p2; rintro e w2 ⟨rfl, hb2⟩; have HB2 := Lib.hid hb2; obtain ⟨p0, p1, p2⟩ := HBP.out w2 hb2; have x4 := HX4.out w2 hb2; have HB02 : Hid (Below w.heap.size w w2) := HB1.out.trans (hb2.mono HB1.out.size); have hfl := flow_any _ c.ins w2 (HI.out.below HB02.out) HL.out.1 HL.out.2 HPOS.out; rw [HFIN.out] at hfl; unfold Cd.FlowPost at hfl; simp only at hfl; clear hb2) | (go_at_call 22; refine hfl.mono ?_; clear hfl; rintro e w3 ⟨g, rfl, hln, hrow, hb3⟩; have HLN := Lib.hid hln; have HROW := Lib.hid hrow; have HB3 := Lib.hid hb3; clear hln hrow hb3))
    go_ret2
    refine ⟨c, fin, g, ?_, HFIN.out, HLN.out, ?_, ?_, HB02.out.trans (HB3.out.mono HB02.out.size)⟩
    · rw [Int.toNat_natCast]; exact HCE.out
    · rw [HLN.out]; try rfl
    · rw [HLN.out]; try rfl
      obtain ⟨h1, h2⟩ := HROW.out
      refine ⟨h1, h2.elim .inl (fun h3 => ?_)⟩
      obtain ⟨g', cap, cur, e1, e2, e3⟩ := h3
      exact .inr ⟨g', cap, cur, e1, Nat.le_trans HB02.out.size e2, e3⟩
end Go.Proofs.Ytlckjphnbfahgaa
namespace Go.Proofs.Ytlckjphnbfahgaa
open Go.RowKit
attribute [local go_sem] Oper.semAt_some
set_option maxRecDepth 100000 in
theorem bytesSame_any {base base' : Nat} (a b : Option Addr) (c c' : Nat) (l : List UInt8) (w : World) (ha : Cd.RowB base w a c l) (hb : Cd.RowB base' w b c' l) :
    Calls Try.prog 20 #[.slice a l.length c, .slice b l.length c'] w fun e w' => e = .returned (.bool true) ∧ w = w' := by
  have h1 := conv_bytes l ha
  have h2 := conv_bytes l hb
  obtain ⟨X, hX⟩ : ∃ X : ByteArray, (⟨l.toArray⟩ : ByteArray) = X := ⟨_, rfl⟩
  rw [hX] at h1 h2
  clear hX ha hb
  go_enter Try.func20, Try.ntmps20
  go_wp2
  go_ret
  exact ⟨rfl, rfl⟩
namespace Cd
def want : List UInt8 := [0, 1, 0, 1, 53, 0, 0, 0, 1, 0, 0, 0, 0, 0, 0, 0, 1, 0, 2, 0, 1, 0, 0, 0, 0, 0, 15, 0, 0, 0, 0]
theorem five_bytes : bytesP (five 1) (fun _ => ⟨#[53]⟩) = want := by kernel_rfl
/-- bytes that lie in a new row -/
theorem new_bytes {w w1 : World} {l : List UInt8} (h : w.alloc (.cells (Lib.byteCells l).toArray 5) = w1) (hl : l.length ≤ 1000) : RowB w.heap.size w1 (some ⟨w.heap.size, 0, none⟩) l.length l := by
  have h1 : w1.heap[w.heap.size]? = some (.cells (Lib.byteCells l).toArray 5 (0, 0)) := by rw [← h]; exact heap_alloc_new w _
  refine ⟨by rw [Lib.byteCells_length, Nat.mul_one], .inr ⟨_, _, _, rfl, Nat.le_refl _, h1, Nat.le_refl _, by unfold maxLen; omega, by simp [Lib.byteCells_length], by rw [Nat.mul_one, List.take_of_length_le (by rw [Lib.byteCells_length]; exact Nat.le_refl _)]⟩⟩
theorem FiveAt.below {w w' : World} {A B C : Nat} {m : Int} (h : FiveAt w A B C m) (hb : Below w.heap.size w w') : FiveAt w' A B C m :=
  ⟨(hb.block _ (lt_of h.ha)).trans h.ha, (hb.block _ (lt_of h.hb)).trans h.hb, (hb.block _ (lt_of h.hc)).trans h.hc⟩
theorem FiveAt.keep {S : Nat → Prop} {w w' : World} {A B C : Nat} {m : Int} (h : FiveAt w A B C m) (hk : Keep S w w') (h1 : ¬ S A) (h2 : ¬ S B) (h3 : ¬ S C) : FiveAt w' A B C m :=
  ⟨(hk.block _ (lt_of h.ha) h1).trans h.ha, (hk.block _ (lt_of h.hb) h2).trans h.hb, (hk.block _ (lt_of h.hc) h3).trans h.hc⟩
theorem FiveAt.set {w : World} {A B C : Nat} {m : Int} (h : FiveAt w A B C m) (h1 : A ≠ C) (h2 : B ≠ C) (n : Int) : FiveAt (w.setCell ⟨C, 3, none⟩ (.int .i64 n)) A B C n := by
  have hk := (Keep.refl (fun k => k = C) w).setCell rfl 3 (.int .i64 n)
  refine ⟨(hk.block _ (lt_of h.ha) h1).trans h.ha, (hk.block _ (lt_of h.hb) h2).trans h.hb, ?_⟩
  have hc := h.hc
  show ((w.heap.modify C _))[C]? = _
  rw [Array.getElem?_modify, if_pos rfl, hc]
  rfl
theorem RowB.keep {S : Nat → Prop} {base : Nat} {w w' : World} {a : Option Addr} {c : Nat} {l : List UInt8} (h : RowB base w a c l) (hk : Keep S w w') (hS : ∀ k, k < w.heap.size → ¬ S k) : RowB base w' a c l := by
  obtain ⟨h1, h2⟩ := h
  refine ⟨h1, h2.elim .inl (fun h3 => ?_)⟩
  obtain ⟨g, cap, cur, e1, e2, e3, e4⟩ := h3
  exact .inr ⟨g, cap, cur, e1, e2, (hk.block g (lt_of e3) (hS g (lt_of e3))).trans e3, e4⟩
/-- a row that is owned, as numbers -/
theorem own_ints {w : World} {base g : Nat} {l : List Int} {n c : Nat} (h : w.ownsRow base 3 1 (.slice (some ⟨g, 0, none⟩) n c) n (l.map (Value.int .i64))) (hl : l.length = n) : Dt.IRow (fun _ => True) w (.slice (some ⟨g, 0, none⟩) n c) l := by
  have h2 := h.2
  rcases h2 with ⟨e, _⟩ | ⟨g', cap, cur, e, e2, e3, e4, e5, e6, e7⟩
  · cases e
  · cases e
    refine ⟨_, _, by rw [hl], by omega, fun _ => ⟨g, 0, rfl, trivial, lt_of e3, fun j hj => ?_⟩⟩
    have := h.cells (g := g) rfl j (.int .i64 l[j]) (by rw [List.getElem?_map, List.getElem?_eq_getElem hj]; rfl)
    rw [addr0] at this
    rw [Nat.zero_add]
    exact this
end Cd
theorem depths5_any {A B C : Nat} (w : World) (hf : Cd.FiveAt w A B C 1) :
    Calls Try.prog 9 #[.agg #[.slice (some ⟨C, 0, none⟩) 1 1, .slice (some ⟨A, 0, none⟩) 1 1, .slice none 0 0], .int .i64 0] w fun e w' => ∃ g, e = .returned (.tuple #[.slice (some ⟨g, 0, none⟩) 2 2, .int .i64 0]) ∧ Dt.IRow (fun _ => True) w' (.slice (some ⟨g, 0, none⟩) 2 2) [0, 1] ∧ Below w.heap.size w w' := by
  refine (depths_any (Cd.five 1) 0 _ _ _ w hf.rep (Cd.five_wf 1 ⟨by decide, by decide⟩)).mono ?_
  intro e w' h
  unfold Cd.DepthsPost at h
  rw [if_neg (fun h => h Cd.five_check), if_neg (by rintro (h | h); exact absurd h (by decide); exact absurd h (by decide))] at h
  obtain ⟨c, fin, g, h1, h2, h3, rfl, h4, h5⟩ := h
  obtain rfl : Cd.fiveC 1 = c := Option.some.inj h1
  have h6 := Cd.five_flow
  have h7 : (Cd.fiveC 1).ins.length = 2 := rfl
  rw [h7, h6] at h2
  obtain ⟨rfl, -⟩ := Prod.mk.inj (Option.some.inj h2)
  exact ⟨g, rfl, Cd.own_ints h4 rfl, h5⟩
set_option maxRecDepth 100000 in
set_option maxHeartbeats 8000000 in
theorem awake_any (w : World) :
    Calls Try.prog 7 #[] w fun e w' => e = .returned (.bool true) ∧ Below w.heap.size w w' := by
  have h5 := five_any w
  go_enter Try.func7, Try.ntmps7
  go_upto_region 2 with (first | (go_at_call 19; refine h5.mono ?_; clear h5; rintro e w1 ⟨A, B, C, rfl, hf, -, -, -, hb1⟩; have hby := bytes_any (Cd.five 1) (fun _ => ⟨#[53]⟩) _ _ _ w1 hf.rep (Cd.five_wf 1 ⟨by decide, by decide⟩) Cd.five_check (fun d hd => by { obtain rfl : d = Cd.fiveD := (by simpa [Cd.five] using hd); exact Cd.five_text }) (by rw [Cd.five_bytes]; decide); rw [Cd.five_bytes] at hby; have HB1 := Lib.hid hb1; clear hf hb1) | (go_at_call 18; refine hby.mono ?_; clear hby; rintro e w2 ⟨ab, cb, rfl, hr2, hb2⟩; have HR2 := Lib.hid hr2; have HB2 : Hid (Below w.heap.size w w2) := HB1.out.trans (hb2.mono HB1.out.size); clear hr2 hb2))
  have h5b := five_any w2
  go_upto_region 3 with (first | (go_at_call 19; refine h5b.mono ?_; clear h5b; rintro e w3 ⟨A2, B2, C2, rfl, hf, -, -, -, hb3⟩; have hdp := depths5_any w3 hf; have HB3 : Hid (Below w.heap.size w w3) := HB2.out.trans (hb3.mono HB2.out.size); have HR3 := Lib.hid (HR2.out.below hb3); clear hf hb3) | (go_at_call 9; refine hdp.mono ?_; clear hdp; rintro e w4 ⟨g, rfl, hi4, hb4⟩; have HB4 : Hid (Below w.heap.size w w4) := HB3.out.trans (hb4.mono HB3.out.size); have HI4 := Lib.hid hi4; have HR4 := Lib.hid (HR3.out.below hb4); clear hi4 hb4))
  have h5c := five_any w4
  go_upto_region 4 with (go_at_call 19; refine h5c.mono ?_; clear h5c; rintro e w5 ⟨A3, B3, C3, rfl, hf5, hAC, hBC, hC5, hb5⟩; refine Hid.out ?_)
  refine Lib.hid ?_
  obtain ⟨wa, hwa⟩ : ∃ wa, w5.alloc (.cells #[.slice (some ⟨C3, 0, none⟩) 1 1, .slice (some ⟨A3, 0, none⟩) 1 1, .slice none 0 0] 26) = wa := ⟨_, rfl⟩
  obtain ⟨hba, hsa, hbpa⟩ := Cd.boxP hwa
  obtain ⟨p0a, p1a, p2a⟩ := hbpa wa (Below.refl _ _)
  have hDa : wa.heap[w5.heap.size]? = some (.cells #[.slice (some ⟨C3, 0, none⟩) 1 1, .slice (some ⟨A3, 0, none⟩) 1 1, .slice none 0 0] 26 (0, 0)) := by rw [← hwa]; exact heap_alloc_new w5 _
  have f2a : wa.frozen? ⟨w5.heap.size, 2, none⟩ = false := Lib.frozen_of_heap hDa 2
  obtain ⟨w6, hw6⟩ : ∃ w6, wa.setCell ⟨w5.heap.size, 2, none⟩ (.slice none 0 0) = w6 := ⟨_, rfl⟩
  have hka6 : Keep (fun k => k = w5.heap.size) wa w6 := by rw [← hw6]; exact (Keep.refl (fun k => k = w5.heap.size) wa).setCell rfl 2 _
  have hb6 : Below w5.heap.size w5 w6 := hba.trans (hka6.to_below (fun k hk => by omega) (by omega))
  have hs6 : w6.heap.size = w5.heap.size + 1 := by rw [← hw6, World.size_setCell, hsa]
  have p0 : w6.cell? ⟨w5.heap.size, 0, none⟩ = some (.slice (some ⟨C3, 0, none⟩) 1 1) := by rw [← hw6]; exact (World.cell?_setCell_other _ _ _ _ (by intro e; cases e)).trans p0a
  have p1 : w6.cell? ⟨w5.heap.size, 1, none⟩ = some (.slice (some ⟨A3, 0, none⟩) 1 1) := by rw [← hw6]; exact (World.cell?_setCell_other _ _ _ _ (by intro e; cases e)).trans p1a
  have p2 : w6.cell? ⟨w5.heap.size, 2, none⟩ = some (.slice none 0 0) := by rw [← hw6]; exact World.cell?_setCell_same _ _ _ p2a
  have hf6 := hf5.below hb6
  have c3 : w6.cell? ⟨C3, 3, none⟩ = some (.int .i64 1) := by rw [Cd.cellAt hf6.hc]; rfl
  have f3 : w6.frozen? ⟨C3, 3, none⟩ = false := Lib.frozen_of_heap hf6.hc 3
  obtain ⟨w7, hw7⟩ : ∃ w7, w6.setCell ⟨C3, 3, none⟩ (.int .i64 2) = w7 := ⟨_, rfl⟩
  have hf7 := hf6.set hAC hBC 2
  rw [hw7] at hf7
  have hCl : C3 < w5.heap.size := Cd.lt_of hf5.hc
  have hk67 : Keep (fun k => k = C3) w6 w7 := by rw [← hw7]; exact (Keep.refl (fun k => k = C3) w6).setCell rfl 3 _
  have hk47 : Keep (fun k => k = C3) w4 w7 := (((Keep.refl (fun k => k = C3) w4).below hb5).below hb6).trans hk67
  have HB7 : Hid (Below w.heap.size w w7) := HB4.out.trans (hk47.to_below (fun k hk => by have := HB4.out.size; omega) HB4.out.size)
  have HR7 := Lib.hid (HR4.out.keep hk47 (fun k hk e => by omega))
  have HI7 := Lib.hid (HI4.out.keep hk47 (fun k _ hk e => by omega))
  have HF7 := Lib.hid hf7
  obtain ⟨D, hD⟩ : ∃ D, w5.heap.size = D := ⟨_, rfl⟩
  rw [hD] at p0 p1 p2 hCl p0a p1a p2a f2a hw6
  have hne : D ≠ C3 := by omega
  have z0 := (hk67.cell 0 (by rw [hs6]; omega) (fun e => hne e)).trans p0
  have z1 := (hk67.cell 1 (by rw [hs6]; omega) (fun e => hne e)).trans p1
  have z2 := (hk67.cell 2 (by rw [hs6]; omega) (fun e => hne e)).trans p2
  have HZ7 := Lib.hid (show D < w7.heap.size by have := hk67.size; have := hs6; omega)
  have HZ0 := Lib.hid z0
  have HZ1 := Lib.hid z1
  have HZ2 := Lib.hid z2
  clear hba hsa hbpa hDa hka6 hb6 hf6 hf7 hf5 hCl hk67 hk47 hAC hBC hC5 hb5 hne z0 z1 z2
  go_upto_region 5 with fail
  have hsz : w6.heap.size = w7.heap.size := by rw [← hw7, World.size_setCell]
  clear hw6 hwa p0 p1 p2 p0a p1a p2a f2a c3 f3 hD hs6
  obtain ⟨w8, hw8⟩ : ∃ w8, w7.alloc (.cells #[.int .u8 0, .int .u8 1, .int .u8 0, .int .u8 1, .int .u8 53, .int .u8 0, .int .u8 0, .int .u8 0, .int .u8 1, .int .u8 0, .int .u8 0, .int .u8 0, .int .u8 0, .int .u8 0, .int .u8 0, .int .u8 0, .int .u8 1, .int .u8 0, .int .u8 2, .int .u8 0, .int .u8 1, .int .u8 0, .int .u8 0, .int .u8 0, .int .u8 0, .int .u8 0, .int .u8 15, .int .u8 0, .int .u8 0, .int .u8 0, .int .u8 0] 5) = w8 := ⟨_, rfl⟩
  obtain ⟨hb8, -⟩ := Cd.below_new (Below.refl _ w7) hw8 (Nat.le_refl _)
  have hl8 := Cd.new_bytes (l := Cd.want) hw8 (by decide)
  have hl8b : Cd.RowB w7.heap.size w8 (some ⟨w7.heap.size, 0, none⟩) 31 Cd.want := hl8
  have hbs := bytesSame_any ab (some ⟨w7.heap.size, 0, none⟩) cb 31 Cd.want w8 (HR7.out.below hb8) hl8b
  have hbs2 : Calls Try.prog 20 #[.slice ab Cd.want.length cb, .slice (some ⟨w7.heap.size, 0, none⟩) 31 31] w8 fun e w' => e = .returned (.bool true) ∧ w8 = w' := hbs
  obtain ⟨w9, hw9⟩ : ∃ w9, w8.alloc (.cells #[.int .i64 0, .int .i64 1] 3) = w9 := ⟨_, rfl⟩
  obtain ⟨hi9, hb9, -⟩ := Cd.new_ints (l := [0, 1]) hw9
  have hb79 := hb8.trans (hb9.mono hb8.size)
  have hie := iEqual_any _ _ [0, 1] [0, 1] w9 (HI7.out.below hb79) hi9 (by decide) (by decide)
  rw [show decide (([0, 1] : List Int) = [0, 1]) = true by decide] at hie
  have hie2 : Calls Try.prog 13 #[.slice (some ⟨g, 0, none⟩) 2 2, .slice (some ⟨w8.heap.size, 0, none⟩) 2 2] w9 fun e w' => e = .returned (.bool true) ∧ Below w9.heap.size w9 w' := hie
  have HB79 := Lib.hid hb79
  clear hbs hb8 hl8 hl8b hi9 hb9 hie hb79
  go_wp2_with (first | (go_at_call 20; refine hbs2.mono ?_; clear hbs2 hsz hw7; rintro e w10 ⟨rfl, rfl⟩) | (go_at_call 13; refine hie2.mono ?_; clear hie2 hw8 hw9; rintro e w10 ⟨rfl, hb10⟩; have hb710 := HB79.out.trans (hb10.mono HB79.out.size); have z0 := (hb710.cell (p := ⟨D, 0, none⟩) HZ7.out).trans HZ0.out; have z1 := (hb710.cell (p := ⟨D, 1, none⟩) HZ7.out).trans HZ1.out; have z2 := (hb710.cell (p := ⟨D, 2, none⟩) HZ7.out).trans HZ2.out; have hck := check_any (Cd.five 2) _ _ _ w10 (HF7.out.below hb710).rep (Cd.five_wf 2 ⟨by decide, by decide⟩); rw [Cd.five_check2] at hck; have HB10 : Hid (Below w.heap.size w w10) := HB7.out.trans (hb710.mono HB7.out.size); clear hb10 hb710) | (go_at_call 11; refine hck.mono ?_; clear hck; rintro e w11 ⟨rfl, hb11⟩; have HB11 := Lib.hid (HB10.out.trans (hb11.mono HB10.out.size)); clear hb11))
  go_ret
  exact ⟨rfl, HB11.out⟩
end Go.Proofs.Ytlckjphnbfahgaa
