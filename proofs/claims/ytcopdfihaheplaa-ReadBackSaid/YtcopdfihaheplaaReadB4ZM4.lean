/-
  Several texts of this proof in one: RdDatum, RdForm, RdWf, RdRead, RdOne, CdFlow, CdOps, CdNeed, CdModel, CdOpen, CdOper, CdWaysP, CdAt, CdPut, RdCutL, RdCutX, ApS, RdWord, RdText, RdQuoted.
-/
import Derived.Test.YtcopdfihaheplaaReadB4ZM3
import Derived.Test.YtcopdfihaheplaaReadB4ZM2
import Derived.Test.YtcopdfihaheplaaLexWords
import Derived.Test.YtcopdfihaheplaaLexSame
import Derived.Test.YtcopdfihaheplaaReadB4ZM1
import Derived.Test.YtcopdfihaheplaaLexApartP
import Derived.Deep.QuietTactic
import Derived.BigQuiet
import Derived.IntWalk
import Derived.Test.YtcopdfihaheplaaPost
import Derived.Laws.Tables
import Derived.Laws.Rows
import Derived.Laws.CopyOwn
import Derived.Great.Walk
import Derived.Deep.DeepCutAuto
import Derived.Lib.SmallJoins
import Derived.Lib.AppendStr
import Derived.Lib.UnsafeStr
import Derived.Test.YtcopdfihaheplaaLexApartS
import Derived.Test.YtcopdfihaheplaaTxL
namespace Go.Proofs.Ytcopdfihaheplaa
open Go.RowKit
attribute [local go_sem] Oper.semAt_some
namespace Rd
open Dt Lx
theorem Out.of_fail {P tb C : Nat} {xs rest : List PTok} {w w' : World} {e : Ending} {b : Nat} {c : Int} (h : FailPost P tb C xs rest (b : Int) c w e w') (hc : c ≠ 0) : Out P tb C xs w (.bad b c) e w' := by
 obtain ⟨rfl, h1, h2⟩ := h
 exact ⟨.mk 0 0 ⟨#[]⟩ [] [] [], _, _, _, rest, b, c, rfl, rep_zero _ _, .inl rfl, h1, h2, .inr ⟨b, c, rfl, rfl, rfl, hc⟩⟩
theorem Out.of_leaf {P tb C : Nat} {xs rest : List PTok} {w w' : World} {t : Tok} {e : Ending} (h : St w P tb C xs rest 0 0) (he : e = .returned (.agg #[.int .i64 (t.k - 8), .int .i64 t.n, .string ⟨t.s.toArray⟩, .slice none 0 0, .slice none 0 0, .slice none 0 0])) (hb : Below w.heap.size w w') : Out P tb C xs w (.ok (leafD t) rest) e w' := by
 subst he
 exact ⟨leafD t, _, _, _, rest, 0, 0, rfl, (rep_iff _ _ _ _ _ _).2 ⟨⟨none, 0, rfl, Nat.le_refl _, fun h => absurd rfl h⟩, ⟨none, 0, rfl, Nat.le_refl _, fun h => absurd rfl h⟩, ⟨none, 0, rfl, Nat.le_refl _, fun h => absurd rfl h⟩⟩, .inl rfl, h.below hb, keep_of_below hb, .inl ⟨rfl, rfl, rfl⟩⟩
end Rd
set_option maxRecDepth 100000 in
set_option maxHeartbeats 8000000 in
theorem datum_1 (P tb C : Nat) (xs : List Lx.PTok) (hG : Rd.G P tb C xs) (t : Lx.PTok) (r : List Lx.PTok) (w : World) (hk : t.t.k = 1) (RES : Rd.Res) (hcal : ∀ W, Rd.Src W tb xs → Rd.St W P tb C xs r 0 0 → Calls Try.prog 42 #[.pointer (some ⟨P, 0, none⟩), Rd.tokV t] W (Rd.Out P tb C xs W RES)) (hSrc : Rd.Src w tb xs) (hSt : Rd.St w P tb C xs (t :: r) 0 0) :
  Calls Try.prog 28 #[.pointer (some ⟨P, 0, none⟩)] w (Rd.Out P tb C xs w RES) := by
 have HCAL := Lib.hid hcal
 have hTV : Rd.tokV t = .agg #[.int .i64 1, .int .i64 (t.at_ : Int), .int .i64 (t.to : Int), .int .i64 t.t.n, .string ⟨t.t.s.toArray⟩] := by unfold Rd.tokV; rw [hk]
 obtain ⟨tn, htn⟩ : ∃ tn, t.t.n = tn := ⟨_, rfl⟩
 obtain ⟨ts, hts⟩ : ∃ ts : ByteArray, ⟨t.t.s.toArray⟩ = ts := ⟨_, rfl⟩
 obtain ⟨ta, hta⟩ : ∃ ta : Int, (t.at_ : Int) = ta := ⟨_, rfl⟩
 obtain ⟨tz, hto⟩ : ∃ tz : Int, (t.to : Int) = tz := ⟨_, rfl⟩
 rw [htn, hts, hta, hto] at hTV
 have HTV := Lib.hid hTV
 obtain ⟨w1, hw1⟩ : ∃ w1, w.alloc (.cells #[.int .i64 0, .int .i64 0, .string ⟨#[]⟩, .slice none 0 0, .slice none 0 0, .slice none 0 0] 25) = w1 := ⟨_, rfl⟩
 obtain ⟨hb1, hs1⟩ := new_below hw1
 have hR1 := Hp.new hw1
 have hPl := hSt.lt
 have hnx := next_yes P tb C xs t r 0 0 w1 (hSrc.below hb1) (hSt.below hb1) hG.cap hG.few hG.C2
 obtain ⟨R, hR⟩ : ∃ R, w.heap.size = R := ⟨_, rfl⟩
 rw [hR] at hR1 hPl hs1
 have HN : Hid (P < R ∧ w1.heap.size = R + 1 ∧ w.heap.size = R) := ⟨hPl, hs1, hR⟩
 have HSRC1 := Lib.hid (hSrc.below hb1)
 have HR1 := Lib.hid hR1
 have HK1 : Hid (Keep (fun k => k = P) w w1) := keep_of_below hb1
 have HG := Lib.hid hG
 clear hcal hTV htn hts hta hto hb1 hs1 hR1 hPl hSrc hSt hG hk
 go_enter Try.func28, Try.ntmps28
 go_wp2_with fail
 refine hnx.mono ?_
 rintro e w2 ⟨rfl, hst2, hk2⟩
 rw [HTV.out]
 obtain ⟨w3, hw3⟩ : ∃ w3, w2.alloc (.cells #[.int .i64 1, .int .i64 ta, .int .i64 tz, .int .i64 tn, .string ts] 47) = w3 := ⟨_, rfl⟩
 obtain ⟨hb3, hs3⟩ := new_below hw3
 have hT3 := Hp.new hw3
 have hR3 := (HR1.out.keep hk2 (by have := HN.out; omega)).below hb3
 have hcal3 := HCAL.out w3 ((HSRC1.out.keep hk2 (fun e => HG.out.ne e.symm)).below hb3) (hst2.below hb3)
 rw [HTV.out] at hcal3
 obtain ⟨T, hT⟩ : ∃ T, w2.heap.size = T := ⟨_, rfl⟩
 rw [hT] at hT3
 have HR3 := Lib.hid hR3
 have HK3 : Hid (Keep (fun k => k = P) w w3) := (HK1.out.trans hk2).trans (keep_of_below hb3)
 have y0 := hT3.cell 0 rfl
 have y1 := hT3.cell 1 rfl
 have y2 := hT3.cell 2 rfl
 have y3 := hT3.cell 3 rfl
 have y4 := hT3.cell 4 rfl
 clear hnx hst2 hk2 hb3 hs3 hT3 hR3 hw1
 go_wp2_with fail
 refine hcal3.mono ?_
 rintro e w5 ⟨y, vm, vl, vt, rest, a2, e2, rfl, hr5, hz5, hst5, hk5, hsay⟩
 obtain ⟨b1, m1, p1, b2, m2, p2, b3, m3, p3, rfl, rfl, rfl⟩ := hr5.forms
 have hR5 := HR3.out.keep hk5 (by have := HN.out; omega)
 have HE := Lib.hid (Rd.Out.fin (x := y) (HK3.out.trans hk5) (R := R) (by have := HN.out; omega) (by have := HN.out; omega) (Dt.Rep.mono (fun j hj _ => by have h1 := HN.out; have h2 := HR3.out.lt; omega) y hr5) hz5 hst5 hsay)
 have r0 := hR5.cell 0 rfl
 have r1 := hR5.cell 1 rfl
 have r2 := hR5.cell 2 rfl
 have r3 := hR5.cell 3 rfl
 have r4 := hR5.cell 4 rfl
 have r5 := hR5.cell 5 rfl
 have k0 := hR5.frz 0
 have k1 := hR5.frz 1
 have k2 := hR5.frz 2
 have k3 := hR5.frz 3
 have k4 := hR5.frz 4
 have k5 := hR5.frz 5
 clear hcal3 hr5 hz5 hst5 hk5 hsay hR5 y0 y1 y2 y3 y4 hw3
 go_wp2
 refine bodyPost_ret (v := .agg #[.int .i64 y.k, .int .i64 y.n, .string y.s, .slice b1 m1 p1, .slice b2 m2 p2, .slice b3 m3 p3]) (by simp [results, Try.results28, go_sem, *]) rfl ?_
 exact HE.out
set_option maxRecDepth 100000 in
set_option maxHeartbeats 8000000 in
theorem datum_2 (P tb C : Nat) (xs : List Lx.PTok) (hG : Rd.G P tb C xs) (t : Lx.PTok) (r : List Lx.PTok) (w : World) (hk : t.t.k = 2) (RES : Rd.Res) (hcal : ∀ W, Rd.Src W tb xs → Rd.St W P tb C xs r 0 0 → Calls Try.prog 44 #[.pointer (some ⟨P, 0, none⟩), Rd.tokV t] W (Rd.Out P tb C xs W RES)) (hSrc : Rd.Src w tb xs) (hSt : Rd.St w P tb C xs (t :: r) 0 0) :
  Calls Try.prog 28 #[.pointer (some ⟨P, 0, none⟩)] w (Rd.Out P tb C xs w RES) := by
 have HCAL := Lib.hid hcal
 have hTV : Rd.tokV t = .agg #[.int .i64 2, .int .i64 (t.at_ : Int), .int .i64 (t.to : Int), .int .i64 t.t.n, .string ⟨t.t.s.toArray⟩] := by unfold Rd.tokV; rw [hk]
 obtain ⟨tn, htn⟩ : ∃ tn, t.t.n = tn := ⟨_, rfl⟩
 obtain ⟨ts, hts⟩ : ∃ ts : ByteArray, ⟨t.t.s.toArray⟩ = ts := ⟨_, rfl⟩
 obtain ⟨ta, hta⟩ : ∃ ta : Int, (t.at_ : Int) = ta := ⟨_, rfl⟩
 obtain ⟨tz, hto⟩ : ∃ tz : Int, (t.to : Int) = tz := ⟨_, rfl⟩
 rw [htn, hts, hta, hto] at hTV
 have HTV := Lib.hid hTV
 obtain ⟨w1, hw1⟩ : ∃ w1, w.alloc (.cells #[.int .i64 0, .int .i64 0, .string ⟨#[]⟩, .slice none 0 0, .slice none 0 0, .slice none 0 0] 25) = w1 := ⟨_, rfl⟩
 obtain ⟨hb1, hs1⟩ := new_below hw1
 have hR1 := Hp.new hw1
 have hPl := hSt.lt
 have hnx := next_yes P tb C xs t r 0 0 w1 (hSrc.below hb1) (hSt.below hb1) hG.cap hG.few hG.C2
 obtain ⟨R, hR⟩ : ∃ R, w.heap.size = R := ⟨_, rfl⟩
 rw [hR] at hR1 hPl hs1
 have HN : Hid (P < R ∧ w1.heap.size = R + 1 ∧ w.heap.size = R) := ⟨hPl, hs1, hR⟩
 have HSRC1 := Lib.hid (hSrc.below hb1)
 have HR1 := Lib.hid hR1
 have HK1 : Hid (Keep (fun k => k = P) w w1) := keep_of_below hb1
 have HG := Lib.hid hG
 clear hcal hTV htn hts hta hto hb1 hs1 hR1 hPl hSrc hSt hG hk
 go_enter Try.func28, Try.ntmps28
 go_wp2_with fail
 refine hnx.mono ?_
 rintro e w2 ⟨rfl, hst2, hk2⟩
 rw [HTV.out]
 obtain ⟨w3, hw3⟩ : ∃ w3, w2.alloc (.cells #[.int .i64 2, .int .i64 ta, .int .i64 tz, .int .i64 tn, .string ts] 47) = w3 := ⟨_, rfl⟩
 obtain ⟨hb3, hs3⟩ := new_below hw3
 have hT3 := Hp.new hw3
 have hR3 := (HR1.out.keep hk2 (by have := HN.out; omega)).below hb3
 have hcal3 := HCAL.out w3 ((HSRC1.out.keep hk2 (fun e => HG.out.ne e.symm)).below hb3) (hst2.below hb3)
 rw [HTV.out] at hcal3
 obtain ⟨T, hT⟩ : ∃ T, w2.heap.size = T := ⟨_, rfl⟩
 rw [hT] at hT3
 have HR3 := Lib.hid hR3
 have HK3 : Hid (Keep (fun k => k = P) w w3) := (HK1.out.trans hk2).trans (keep_of_below hb3)
 have y0 := hT3.cell 0 rfl
 have y1 := hT3.cell 1 rfl
 have y2 := hT3.cell 2 rfl
 have y3 := hT3.cell 3 rfl
 have y4 := hT3.cell 4 rfl
 clear hnx hst2 hk2 hb3 hs3 hT3 hR3 hw1
 go_wp2_with fail
 refine hcal3.mono ?_
 rintro e w5 ⟨y, vm, vl, vt, rest, a2, e2, rfl, hr5, hz5, hst5, hk5, hsay⟩
 obtain ⟨b1, m1, p1, b2, m2, p2, b3, m3, p3, rfl, rfl, rfl⟩ := hr5.forms
 have hR5 := HR3.out.keep hk5 (by have := HN.out; omega)
 have HE := Lib.hid (Rd.Out.fin (x := y) (HK3.out.trans hk5) (R := R) (by have := HN.out; omega) (by have := HN.out; omega) (Dt.Rep.mono (fun j hj _ => by have h1 := HN.out; have h2 := HR3.out.lt; omega) y hr5) hz5 hst5 hsay)
 have r0 := hR5.cell 0 rfl
 have r1 := hR5.cell 1 rfl
 have r2 := hR5.cell 2 rfl
 have r3 := hR5.cell 3 rfl
 have r4 := hR5.cell 4 rfl
 have r5 := hR5.cell 5 rfl
 have k0 := hR5.frz 0
 have k1 := hR5.frz 1
 have k2 := hR5.frz 2
 have k3 := hR5.frz 3
 have k4 := hR5.frz 4
 have k5 := hR5.frz 5
 clear hcal3 hr5 hz5 hst5 hk5 hsay hR5 y0 y1 y2 y3 y4 hw3
 go_wp2
 refine bodyPost_ret (v := .agg #[.int .i64 y.k, .int .i64 y.n, .string y.s, .slice b1 m1 p1, .slice b2 m2 p2, .slice b3 m3 p3]) (by simp [results, Try.results28, go_sem, *]) rfl ?_
 exact HE.out
set_option maxRecDepth 100000 in
set_option maxHeartbeats 8000000 in
theorem datum_3 (P tb C : Nat) (xs : List Lx.PTok) (hG : Rd.G P tb C xs) (t : Lx.PTok) (r : List Lx.PTok) (w : World) (hk : t.t.k = 3) (RES : Rd.Res) (hcal : ∀ W, Rd.Src W tb xs → Rd.St W P tb C xs r 0 0 → Calls Try.prog 43 #[.pointer (some ⟨P, 0, none⟩), Rd.tokV t] W (Rd.Out P tb C xs W RES)) (hSrc : Rd.Src w tb xs) (hSt : Rd.St w P tb C xs (t :: r) 0 0) :
  Calls Try.prog 28 #[.pointer (some ⟨P, 0, none⟩)] w (Rd.Out P tb C xs w RES) := by
 have HCAL := Lib.hid hcal
 have hTV : Rd.tokV t = .agg #[.int .i64 3, .int .i64 (t.at_ : Int), .int .i64 (t.to : Int), .int .i64 t.t.n, .string ⟨t.t.s.toArray⟩] := by unfold Rd.tokV; rw [hk]
 obtain ⟨tn, htn⟩ : ∃ tn, t.t.n = tn := ⟨_, rfl⟩
 obtain ⟨ts, hts⟩ : ∃ ts : ByteArray, ⟨t.t.s.toArray⟩ = ts := ⟨_, rfl⟩
 obtain ⟨ta, hta⟩ : ∃ ta : Int, (t.at_ : Int) = ta := ⟨_, rfl⟩
 obtain ⟨tz, hto⟩ : ∃ tz : Int, (t.to : Int) = tz := ⟨_, rfl⟩
 rw [htn, hts, hta, hto] at hTV
 have HTV := Lib.hid hTV
 obtain ⟨w1, hw1⟩ : ∃ w1, w.alloc (.cells #[.int .i64 0, .int .i64 0, .string ⟨#[]⟩, .slice none 0 0, .slice none 0 0, .slice none 0 0] 25) = w1 := ⟨_, rfl⟩
 obtain ⟨hb1, hs1⟩ := new_below hw1
 have hR1 := Hp.new hw1
 have hPl := hSt.lt
 have hnx := next_yes P tb C xs t r 0 0 w1 (hSrc.below hb1) (hSt.below hb1) hG.cap hG.few hG.C2
 obtain ⟨R, hR⟩ : ∃ R, w.heap.size = R := ⟨_, rfl⟩
 rw [hR] at hR1 hPl hs1
 have HN : Hid (P < R ∧ w1.heap.size = R + 1 ∧ w.heap.size = R) := ⟨hPl, hs1, hR⟩
 have HSRC1 := Lib.hid (hSrc.below hb1)
 have HR1 := Lib.hid hR1
 have HK1 : Hid (Keep (fun k => k = P) w w1) := keep_of_below hb1
 have HG := Lib.hid hG
 clear hcal hTV htn hts hta hto hb1 hs1 hR1 hPl hSrc hSt hG hk
 go_enter Try.func28, Try.ntmps28
 go_wp2_with fail
 refine hnx.mono ?_
 rintro e w2 ⟨rfl, hst2, hk2⟩
 rw [HTV.out]
 obtain ⟨w3, hw3⟩ : ∃ w3, w2.alloc (.cells #[.int .i64 3, .int .i64 ta, .int .i64 tz, .int .i64 tn, .string ts] 47) = w3 := ⟨_, rfl⟩
 obtain ⟨hb3, hs3⟩ := new_below hw3
 have hT3 := Hp.new hw3
 have hR3 := (HR1.out.keep hk2 (by have := HN.out; omega)).below hb3
 have hcal3 := HCAL.out w3 ((HSRC1.out.keep hk2 (fun e => HG.out.ne e.symm)).below hb3) (hst2.below hb3)
 rw [HTV.out] at hcal3
 obtain ⟨T, hT⟩ : ∃ T, w2.heap.size = T := ⟨_, rfl⟩
 rw [hT] at hT3
 have HR3 := Lib.hid hR3
 have HK3 : Hid (Keep (fun k => k = P) w w3) := (HK1.out.trans hk2).trans (keep_of_below hb3)
 have y0 := hT3.cell 0 rfl
 have y1 := hT3.cell 1 rfl
 have y2 := hT3.cell 2 rfl
 have y3 := hT3.cell 3 rfl
 have y4 := hT3.cell 4 rfl
 clear hnx hst2 hk2 hb3 hs3 hT3 hR3 hw1
 go_wp2_with fail
 refine hcal3.mono ?_
 rintro e w5 ⟨y, vm, vl, vt, rest, a2, e2, rfl, hr5, hz5, hst5, hk5, hsay⟩
 obtain ⟨b1, m1, p1, b2, m2, p2, b3, m3, p3, rfl, rfl, rfl⟩ := hr5.forms
 have hR5 := HR3.out.keep hk5 (by have := HN.out; omega)
 have HE := Lib.hid (Rd.Out.fin (x := y) (HK3.out.trans hk5) (R := R) (by have := HN.out; omega) (by have := HN.out; omega) (Dt.Rep.mono (fun j hj _ => by have h1 := HN.out; have h2 := HR3.out.lt; omega) y hr5) hz5 hst5 hsay)
 have r0 := hR5.cell 0 rfl
 have r1 := hR5.cell 1 rfl
 have r2 := hR5.cell 2 rfl
 have r3 := hR5.cell 3 rfl
 have r4 := hR5.cell 4 rfl
 have r5 := hR5.cell 5 rfl
 have k0 := hR5.frz 0
 have k1 := hR5.frz 1
 have k2 := hR5.frz 2
 have k3 := hR5.frz 3
 have k4 := hR5.frz 4
 have k5 := hR5.frz 5
 clear hcal3 hr5 hz5 hst5 hk5 hsay hR5 y0 y1 y2 y3 y4 hw3
 go_wp2
 refine bodyPost_ret (v := .agg #[.int .i64 y.k, .int .i64 y.n, .string y.s, .slice b1 m1 p1, .slice b2 m2 p2, .slice b3 m3 p3]) (by simp [results, Try.results28, go_sem, *]) rfl ?_
 exact HE.out
set_option maxRecDepth 100000 in
set_option maxHeartbeats 8000000 in
theorem datum_4 (P tb C : Nat) (xs : List Lx.PTok) (hG : Rd.G P tb C xs) (t : Lx.PTok) (r : List Lx.PTok) (w : World) (hk : t.t.k = 4) (RES : Rd.Res) (hcal : ∀ W, Rd.Src W tb xs → Rd.St W P tb C xs r 0 0 → Calls Try.prog 45 #[.pointer (some ⟨P, 0, none⟩), Rd.tokV t] W (Rd.Out P tb C xs W RES)) (hSrc : Rd.Src w tb xs) (hSt : Rd.St w P tb C xs (t :: r) 0 0) :
  Calls Try.prog 28 #[.pointer (some ⟨P, 0, none⟩)] w (Rd.Out P tb C xs w RES) := by
 have HCAL := Lib.hid hcal
 have hTV : Rd.tokV t = .agg #[.int .i64 4, .int .i64 (t.at_ : Int), .int .i64 (t.to : Int), .int .i64 t.t.n, .string ⟨t.t.s.toArray⟩] := by unfold Rd.tokV; rw [hk]
 obtain ⟨tn, htn⟩ : ∃ tn, t.t.n = tn := ⟨_, rfl⟩
 obtain ⟨ts, hts⟩ : ∃ ts : ByteArray, ⟨t.t.s.toArray⟩ = ts := ⟨_, rfl⟩
 obtain ⟨ta, hta⟩ : ∃ ta : Int, (t.at_ : Int) = ta := ⟨_, rfl⟩
 obtain ⟨tz, hto⟩ : ∃ tz : Int, (t.to : Int) = tz := ⟨_, rfl⟩
 rw [htn, hts, hta, hto] at hTV
 have HTV := Lib.hid hTV
 obtain ⟨w1, hw1⟩ : ∃ w1, w.alloc (.cells #[.int .i64 0, .int .i64 0, .string ⟨#[]⟩, .slice none 0 0, .slice none 0 0, .slice none 0 0] 25) = w1 := ⟨_, rfl⟩
 obtain ⟨hb1, hs1⟩ := new_below hw1
 have hR1 := Hp.new hw1
 have hPl := hSt.lt
 have hnx := next_yes P tb C xs t r 0 0 w1 (hSrc.below hb1) (hSt.below hb1) hG.cap hG.few hG.C2
 obtain ⟨R, hR⟩ : ∃ R, w.heap.size = R := ⟨_, rfl⟩
 rw [hR] at hR1 hPl hs1
 have HN : Hid (P < R ∧ w1.heap.size = R + 1 ∧ w.heap.size = R) := ⟨hPl, hs1, hR⟩
 have HSRC1 := Lib.hid (hSrc.below hb1)
 have HR1 := Lib.hid hR1
 have HK1 : Hid (Keep (fun k => k = P) w w1) := keep_of_below hb1
 have HG := Lib.hid hG
 clear hcal hTV htn hts hta hto hb1 hs1 hR1 hPl hSrc hSt hG hk
 go_enter Try.func28, Try.ntmps28
 go_wp2_with fail
 refine hnx.mono ?_
 rintro e w2 ⟨rfl, hst2, hk2⟩
 rw [HTV.out]
 obtain ⟨w3, hw3⟩ : ∃ w3, w2.alloc (.cells #[.int .i64 4, .int .i64 ta, .int .i64 tz, .int .i64 tn, .string ts] 47) = w3 := ⟨_, rfl⟩
 obtain ⟨hb3, hs3⟩ := new_below hw3
 have hT3 := Hp.new hw3
 have hR3 := (HR1.out.keep hk2 (by have := HN.out; omega)).below hb3
 have hcal3 := HCAL.out w3 ((HSRC1.out.keep hk2 (fun e => HG.out.ne e.symm)).below hb3) (hst2.below hb3)
 rw [HTV.out] at hcal3
 obtain ⟨T, hT⟩ : ∃ T, w2.heap.size = T := ⟨_, rfl⟩
 rw [hT] at hT3
 have HR3 := Lib.hid hR3
 have HK3 : Hid (Keep (fun k => k = P) w w3) := (HK1.out.trans hk2).trans (keep_of_below hb3)
 have y0 := hT3.cell 0 rfl
 have y1 := hT3.cell 1 rfl
 have y2 := hT3.cell 2 rfl
 have y3 := hT3.cell 3 rfl
 have y4 := hT3.cell 4 rfl
 clear hnx hst2 hk2 hb3 hs3 hT3 hR3 hw1
 go_wp2_with fail
 refine hcal3.mono ?_
 rintro e w5 ⟨y, vm, vl, vt, rest, a2, e2, rfl, hr5, hz5, hst5, hk5, hsay⟩
 obtain ⟨b1, m1, p1, b2, m2, p2, b3, m3, p3, rfl, rfl, rfl⟩ := hr5.forms
 have hR5 := HR3.out.keep hk5 (by have := HN.out; omega)
 have HE := Lib.hid (Rd.Out.fin (x := y) (HK3.out.trans hk5) (R := R) (by have := HN.out; omega) (by have := HN.out; omega) (Dt.Rep.mono (fun j hj _ => by have h1 := HN.out; have h2 := HR3.out.lt; omega) y hr5) hz5 hst5 hsay)
 have r0 := hR5.cell 0 rfl
 have r1 := hR5.cell 1 rfl
 have r2 := hR5.cell 2 rfl
 have r3 := hR5.cell 3 rfl
 have r4 := hR5.cell 4 rfl
 have r5 := hR5.cell 5 rfl
 have k0 := hR5.frz 0
 have k1 := hR5.frz 1
 have k2 := hR5.frz 2
 have k3 := hR5.frz 3
 have k4 := hR5.frz 4
 have k5 := hR5.frz 5
 clear hcal3 hr5 hz5 hst5 hk5 hsay hR5 y0 y1 y2 y3 y4 hw3
 go_wp2
 refine bodyPost_ret (v := .agg #[.int .i64 y.k, .int .i64 y.n, .string y.s, .slice b1 m1 p1, .slice b2 m2 p2, .slice b3 m3 p3]) (by simp [results, Try.results28, go_sem, *]) rfl ?_
 exact HE.out
set_option maxRecDepth 100000 in
set_option maxHeartbeats 8000000 in
theorem datum_5 (P tb C : Nat) (xs : List Lx.PTok) (hG : Rd.G P tb C xs) (t : Lx.PTok) (r : List Lx.PTok) (w : World) (hk : t.t.k = 5) (RES : Rd.Res) (hcal : ∀ W, Rd.Src W tb xs → Rd.St W P tb C xs r 0 0 → Calls Try.prog 45 #[.pointer (some ⟨P, 0, none⟩), Rd.tokV t] W (Rd.Out P tb C xs W RES)) (hSrc : Rd.Src w tb xs) (hSt : Rd.St w P tb C xs (t :: r) 0 0) :
  Calls Try.prog 28 #[.pointer (some ⟨P, 0, none⟩)] w (Rd.Out P tb C xs w RES) := by
 have HCAL := Lib.hid hcal
 have hTV : Rd.tokV t = .agg #[.int .i64 5, .int .i64 (t.at_ : Int), .int .i64 (t.to : Int), .int .i64 t.t.n, .string ⟨t.t.s.toArray⟩] := by unfold Rd.tokV; rw [hk]
 obtain ⟨tn, htn⟩ : ∃ tn, t.t.n = tn := ⟨_, rfl⟩
 obtain ⟨ts, hts⟩ : ∃ ts : ByteArray, ⟨t.t.s.toArray⟩ = ts := ⟨_, rfl⟩
 obtain ⟨ta, hta⟩ : ∃ ta : Int, (t.at_ : Int) = ta := ⟨_, rfl⟩
 obtain ⟨tz, hto⟩ : ∃ tz : Int, (t.to : Int) = tz := ⟨_, rfl⟩
 rw [htn, hts, hta, hto] at hTV
 have HTV := Lib.hid hTV
 obtain ⟨w1, hw1⟩ : ∃ w1, w.alloc (.cells #[.int .i64 0, .int .i64 0, .string ⟨#[]⟩, .slice none 0 0, .slice none 0 0, .slice none 0 0] 25) = w1 := ⟨_, rfl⟩
 obtain ⟨hb1, hs1⟩ := new_below hw1
 have hR1 := Hp.new hw1
 have hPl := hSt.lt
 have hnx := next_yes P tb C xs t r 0 0 w1 (hSrc.below hb1) (hSt.below hb1) hG.cap hG.few hG.C2
 obtain ⟨R, hR⟩ : ∃ R, w.heap.size = R := ⟨_, rfl⟩
 rw [hR] at hR1 hPl hs1
 have HN : Hid (P < R ∧ w1.heap.size = R + 1 ∧ w.heap.size = R) := ⟨hPl, hs1, hR⟩
 have HSRC1 := Lib.hid (hSrc.below hb1)
 have HR1 := Lib.hid hR1
 have HK1 : Hid (Keep (fun k => k = P) w w1) := keep_of_below hb1
 have HG := Lib.hid hG
 clear hcal hTV htn hts hta hto hb1 hs1 hR1 hPl hSrc hSt hG hk
 go_enter Try.func28, Try.ntmps28
 go_wp2_with fail
 refine hnx.mono ?_
 rintro e w2 ⟨rfl, hst2, hk2⟩
 rw [HTV.out]
 obtain ⟨w3, hw3⟩ : ∃ w3, w2.alloc (.cells #[.int .i64 5, .int .i64 ta, .int .i64 tz, .int .i64 tn, .string ts] 47) = w3 := ⟨_, rfl⟩
 obtain ⟨hb3, hs3⟩ := new_below hw3
 have hT3 := Hp.new hw3
 have hR3 := (HR1.out.keep hk2 (by have := HN.out; omega)).below hb3
 have hcal3 := HCAL.out w3 ((HSRC1.out.keep hk2 (fun e => HG.out.ne e.symm)).below hb3) (hst2.below hb3)
 rw [HTV.out] at hcal3
 obtain ⟨T, hT⟩ : ∃ T, w2.heap.size = T := ⟨_, rfl⟩
 rw [hT] at hT3
 have HR3 := Lib.hid hR3
 have HK3 : Hid (Keep (fun k => k = P) w w3) := (HK1.out.trans hk2).trans (keep_of_below hb3)
 have y0 := hT3.cell 0 rfl
 have y1 := hT3.cell 1 rfl
 have y2 := hT3.cell 2 rfl
 have y3 := hT3.cell 3 rfl
 have y4 := hT3.cell 4 rfl
 clear hnx hst2 hk2 hb3 hs3 hT3 hR3 hw1
 go_wp2_with fail
 refine hcal3.mono ?_
 rintro e w5 ⟨y, vm, vl, vt, rest, a2, e2, rfl, hr5, hz5, hst5, hk5, hsay⟩
 obtain ⟨b1, m1, p1, b2, m2, p2, b3, m3, p3, rfl, rfl, rfl⟩ := hr5.forms
 have hR5 := HR3.out.keep hk5 (by have := HN.out; omega)
 have HE := Lib.hid (Rd.Out.fin (x := y) (HK3.out.trans hk5) (R := R) (by have := HN.out; omega) (by have := HN.out; omega) (Dt.Rep.mono (fun j hj _ => by have h1 := HN.out; have h2 := HR3.out.lt; omega) y hr5) hz5 hst5 hsay)
 have r0 := hR5.cell 0 rfl
 have r1 := hR5.cell 1 rfl
 have r2 := hR5.cell 2 rfl
 have r3 := hR5.cell 3 rfl
 have r4 := hR5.cell 4 rfl
 have r5 := hR5.cell 5 rfl
 have k0 := hR5.frz 0
 have k1 := hR5.frz 1
 have k2 := hR5.frz 2
 have k3 := hR5.frz 3
 have k4 := hR5.frz 4
 have k5 := hR5.frz 5
 clear hcal3 hr5 hz5 hst5 hk5 hsay hR5 y0 y1 y2 y3 y4 hw3
 go_wp2
 refine bodyPost_ret (v := .agg #[.int .i64 y.k, .int .i64 y.n, .string y.s, .slice b1 m1 p1, .slice b2 m2 p2, .slice b3 m3 p3]) (by simp [results, Try.results28, go_sem, *]) rfl ?_
 exact HE.out
set_option maxRecDepth 100000 in
set_option maxHeartbeats 8000000 in
theorem datum_6 (P tb C : Nat) (xs : List Lx.PTok) (hG : Rd.G P tb C xs) (t : Lx.PTok) (r : List Lx.PTok) (w : World) (hk : t.t.k = 6) (RES : Rd.Res) (hcal : ∀ W, Rd.Src W tb xs → Rd.St W P tb C xs r 0 0 → Calls Try.prog 45 #[.pointer (some ⟨P, 0, none⟩), Rd.tokV t] W (Rd.Out P tb C xs W RES)) (hSrc : Rd.Src w tb xs) (hSt : Rd.St w P tb C xs (t :: r) 0 0) :
  Calls Try.prog 28 #[.pointer (some ⟨P, 0, none⟩)] w (Rd.Out P tb C xs w RES) := by
 have HCAL := Lib.hid hcal
 have hTV : Rd.tokV t = .agg #[.int .i64 6, .int .i64 (t.at_ : Int), .int .i64 (t.to : Int), .int .i64 t.t.n, .string ⟨t.t.s.toArray⟩] := by unfold Rd.tokV; rw [hk]
 obtain ⟨tn, htn⟩ : ∃ tn, t.t.n = tn := ⟨_, rfl⟩
 obtain ⟨ts, hts⟩ : ∃ ts : ByteArray, ⟨t.t.s.toArray⟩ = ts := ⟨_, rfl⟩
 obtain ⟨ta, hta⟩ : ∃ ta : Int, (t.at_ : Int) = ta := ⟨_, rfl⟩
 obtain ⟨tz, hto⟩ : ∃ tz : Int, (t.to : Int) = tz := ⟨_, rfl⟩
 rw [htn, hts, hta, hto] at hTV
 have HTV := Lib.hid hTV
 obtain ⟨w1, hw1⟩ : ∃ w1, w.alloc (.cells #[.int .i64 0, .int .i64 0, .string ⟨#[]⟩, .slice none 0 0, .slice none 0 0, .slice none 0 0] 25) = w1 := ⟨_, rfl⟩
 obtain ⟨hb1, hs1⟩ := new_below hw1
 have hR1 := Hp.new hw1
 have hPl := hSt.lt
 have hnx := next_yes P tb C xs t r 0 0 w1 (hSrc.below hb1) (hSt.below hb1) hG.cap hG.few hG.C2
 obtain ⟨R, hR⟩ : ∃ R, w.heap.size = R := ⟨_, rfl⟩
 rw [hR] at hR1 hPl hs1
 have HN : Hid (P < R ∧ w1.heap.size = R + 1 ∧ w.heap.size = R) := ⟨hPl, hs1, hR⟩
 have HSRC1 := Lib.hid (hSrc.below hb1)
 have HR1 := Lib.hid hR1
 have HK1 : Hid (Keep (fun k => k = P) w w1) := keep_of_below hb1
 have HG := Lib.hid hG
 clear hcal hTV htn hts hta hto hb1 hs1 hR1 hPl hSrc hSt hG hk
 go_enter Try.func28, Try.ntmps28
 go_wp2_with fail
 refine hnx.mono ?_
 rintro e w2 ⟨rfl, hst2, hk2⟩
 rw [HTV.out]
 obtain ⟨w3, hw3⟩ : ∃ w3, w2.alloc (.cells #[.int .i64 6, .int .i64 ta, .int .i64 tz, .int .i64 tn, .string ts] 47) = w3 := ⟨_, rfl⟩
 obtain ⟨hb3, hs3⟩ := new_below hw3
 have hT3 := Hp.new hw3
 have hR3 := (HR1.out.keep hk2 (by have := HN.out; omega)).below hb3
 have hcal3 := HCAL.out w3 ((HSRC1.out.keep hk2 (fun e => HG.out.ne e.symm)).below hb3) (hst2.below hb3)
 rw [HTV.out] at hcal3
 obtain ⟨T, hT⟩ : ∃ T, w2.heap.size = T := ⟨_, rfl⟩
 rw [hT] at hT3
 have HR3 := Lib.hid hR3
 have HK3 : Hid (Keep (fun k => k = P) w w3) := (HK1.out.trans hk2).trans (keep_of_below hb3)
 have y0 := hT3.cell 0 rfl
 have y1 := hT3.cell 1 rfl
 have y2 := hT3.cell 2 rfl
 have y3 := hT3.cell 3 rfl
 have y4 := hT3.cell 4 rfl
 clear hnx hst2 hk2 hb3 hs3 hT3 hR3 hw1
 go_wp2_with fail
 refine hcal3.mono ?_
 rintro e w5 ⟨y, vm, vl, vt, rest, a2, e2, rfl, hr5, hz5, hst5, hk5, hsay⟩
 obtain ⟨b1, m1, p1, b2, m2, p2, b3, m3, p3, rfl, rfl, rfl⟩ := hr5.forms
 have hR5 := HR3.out.keep hk5 (by have := HN.out; omega)
 have HE := Lib.hid (Rd.Out.fin (x := y) (HK3.out.trans hk5) (R := R) (by have := HN.out; omega) (by have := HN.out; omega) (Dt.Rep.mono (fun j hj _ => by have h1 := HN.out; have h2 := HR3.out.lt; omega) y hr5) hz5 hst5 hsay)
 have r0 := hR5.cell 0 rfl
 have r1 := hR5.cell 1 rfl
 have r2 := hR5.cell 2 rfl
 have r3 := hR5.cell 3 rfl
 have r4 := hR5.cell 4 rfl
 have r5 := hR5.cell 5 rfl
 have k0 := hR5.frz 0
 have k1 := hR5.frz 1
 have k2 := hR5.frz 2
 have k3 := hR5.frz 3
 have k4 := hR5.frz 4
 have k5 := hR5.frz 5
 clear hcal3 hr5 hz5 hst5 hk5 hsay hR5 y0 y1 y2 y3 y4 hw3
 go_wp2
 refine bodyPost_ret (v := .agg #[.int .i64 y.k, .int .i64 y.n, .string y.s, .slice b1 m1 p1, .slice b2 m2 p2, .slice b3 m3 p3]) (by simp [results, Try.results28, go_sem, *]) rfl ?_
 exact HE.out
set_option maxRecDepth 100000 in
set_option maxHeartbeats 8000000 in
theorem datum_7 (P tb C : Nat) (xs : List Lx.PTok) (hG : Rd.G P tb C xs) (t : Lx.PTok) (r : List Lx.PTok) (w : World) (hk : t.t.k = 7) (RES : Rd.Res) (hcal : ∀ W, Rd.Src W tb xs → Rd.St W P tb C xs r 0 0 → Calls Try.prog 45 #[.pointer (some ⟨P, 0, none⟩), Rd.tokV t] W (Rd.Out P tb C xs W RES)) (hSrc : Rd.Src w tb xs) (hSt : Rd.St w P tb C xs (t :: r) 0 0) :
  Calls Try.prog 28 #[.pointer (some ⟨P, 0, none⟩)] w (Rd.Out P tb C xs w RES) := by
 have HCAL := Lib.hid hcal
 have hTV : Rd.tokV t = .agg #[.int .i64 7, .int .i64 (t.at_ : Int), .int .i64 (t.to : Int), .int .i64 t.t.n, .string ⟨t.t.s.toArray⟩] := by unfold Rd.tokV; rw [hk]
 obtain ⟨tn, htn⟩ : ∃ tn, t.t.n = tn := ⟨_, rfl⟩
 obtain ⟨ts, hts⟩ : ∃ ts : ByteArray, ⟨t.t.s.toArray⟩ = ts := ⟨_, rfl⟩
 obtain ⟨ta, hta⟩ : ∃ ta : Int, (t.at_ : Int) = ta := ⟨_, rfl⟩
 obtain ⟨tz, hto⟩ : ∃ tz : Int, (t.to : Int) = tz := ⟨_, rfl⟩
 rw [htn, hts, hta, hto] at hTV
 have HTV := Lib.hid hTV
 obtain ⟨w1, hw1⟩ : ∃ w1, w.alloc (.cells #[.int .i64 0, .int .i64 0, .string ⟨#[]⟩, .slice none 0 0, .slice none 0 0, .slice none 0 0] 25) = w1 := ⟨_, rfl⟩
 obtain ⟨hb1, hs1⟩ := new_below hw1
 have hR1 := Hp.new hw1
 have hPl := hSt.lt
 have hnx := next_yes P tb C xs t r 0 0 w1 (hSrc.below hb1) (hSt.below hb1) hG.cap hG.few hG.C2
 obtain ⟨R, hR⟩ : ∃ R, w.heap.size = R := ⟨_, rfl⟩
 rw [hR] at hR1 hPl hs1
 have HN : Hid (P < R ∧ w1.heap.size = R + 1 ∧ w.heap.size = R) := ⟨hPl, hs1, hR⟩
 have HSRC1 := Lib.hid (hSrc.below hb1)
 have HR1 := Lib.hid hR1
 have HK1 : Hid (Keep (fun k => k = P) w w1) := keep_of_below hb1
 have HG := Lib.hid hG
 clear hcal hTV htn hts hta hto hb1 hs1 hR1 hPl hSrc hSt hG hk
 go_enter Try.func28, Try.ntmps28
 go_wp2_with fail
 refine hnx.mono ?_
 rintro e w2 ⟨rfl, hst2, hk2⟩
 rw [HTV.out]
 obtain ⟨w3, hw3⟩ : ∃ w3, w2.alloc (.cells #[.int .i64 7, .int .i64 ta, .int .i64 tz, .int .i64 tn, .string ts] 47) = w3 := ⟨_, rfl⟩
 obtain ⟨hb3, hs3⟩ := new_below hw3
 have hT3 := Hp.new hw3
 have hR3 := (HR1.out.keep hk2 (by have := HN.out; omega)).below hb3
 have hcal3 := HCAL.out w3 ((HSRC1.out.keep hk2 (fun e => HG.out.ne e.symm)).below hb3) (hst2.below hb3)
 rw [HTV.out] at hcal3
 obtain ⟨T, hT⟩ : ∃ T, w2.heap.size = T := ⟨_, rfl⟩
 rw [hT] at hT3
 have HR3 := Lib.hid hR3
 have HK3 : Hid (Keep (fun k => k = P) w w3) := (HK1.out.trans hk2).trans (keep_of_below hb3)
 have y0 := hT3.cell 0 rfl
 have y1 := hT3.cell 1 rfl
 have y2 := hT3.cell 2 rfl
 have y3 := hT3.cell 3 rfl
 have y4 := hT3.cell 4 rfl
 clear hnx hst2 hk2 hb3 hs3 hT3 hR3 hw1
 go_wp2_with fail
 refine hcal3.mono ?_
 rintro e w5 ⟨y, vm, vl, vt, rest, a2, e2, rfl, hr5, hz5, hst5, hk5, hsay⟩
 obtain ⟨b1, m1, p1, b2, m2, p2, b3, m3, p3, rfl, rfl, rfl⟩ := hr5.forms
 have hR5 := HR3.out.keep hk5 (by have := HN.out; omega)
 have HE := Lib.hid (Rd.Out.fin (x := y) (HK3.out.trans hk5) (R := R) (by have := HN.out; omega) (by have := HN.out; omega) (Dt.Rep.mono (fun j hj _ => by have h1 := HN.out; have h2 := HR3.out.lt; omega) y hr5) hz5 hst5 hsay)
 have r0 := hR5.cell 0 rfl
 have r1 := hR5.cell 1 rfl
 have r2 := hR5.cell 2 rfl
 have r3 := hR5.cell 3 rfl
 have r4 := hR5.cell 4 rfl
 have r5 := hR5.cell 5 rfl
 have k0 := hR5.frz 0
 have k1 := hR5.frz 1
 have k2 := hR5.frz 2
 have k3 := hR5.frz 3
 have k4 := hR5.frz 4
 have k5 := hR5.frz 5
 clear hcal3 hr5 hz5 hst5 hk5 hsay hR5 y0 y1 y2 y3 y4 hw3
 go_wp2
 refine bodyPost_ret (v := .agg #[.int .i64 y.k, .int .i64 y.n, .string y.s, .slice b1 m1 p1, .slice b2 m2 p2, .slice b3 m3 p3]) (by simp [results, Try.results28, go_sem, *]) rfl ?_
 exact HE.out
set_option maxRecDepth 100000 in
set_option maxHeartbeats 8000000 in
theorem datum_8 (P tb C : Nat) (xs : List Lx.PTok) (hG : Rd.G P tb C xs) (t : Lx.PTok) (r : List Lx.PTok) (w : World) (hk : t.t.k = 8) (RES : Rd.Res) (hcal : ∀ W, Rd.Src W tb xs → Rd.St W P tb C xs r 0 0 → Calls Try.prog 44 #[.pointer (some ⟨P, 0, none⟩), Rd.tokV t] W (Rd.Out P tb C xs W RES)) (hSrc : Rd.Src w tb xs) (hSt : Rd.St w P tb C xs (t :: r) 0 0) :
  Calls Try.prog 28 #[.pointer (some ⟨P, 0, none⟩)] w (Rd.Out P tb C xs w RES) := by
 have HCAL := Lib.hid hcal
 have hTV : Rd.tokV t = .agg #[.int .i64 8, .int .i64 (t.at_ : Int), .int .i64 (t.to : Int), .int .i64 t.t.n, .string ⟨t.t.s.toArray⟩] := by unfold Rd.tokV; rw [hk]
 obtain ⟨tn, htn⟩ : ∃ tn, t.t.n = tn := ⟨_, rfl⟩
 obtain ⟨ts, hts⟩ : ∃ ts : ByteArray, ⟨t.t.s.toArray⟩ = ts := ⟨_, rfl⟩
 obtain ⟨ta, hta⟩ : ∃ ta : Int, (t.at_ : Int) = ta := ⟨_, rfl⟩
 obtain ⟨tz, hto⟩ : ∃ tz : Int, (t.to : Int) = tz := ⟨_, rfl⟩
 rw [htn, hts, hta, hto] at hTV
 have HTV := Lib.hid hTV
 obtain ⟨w1, hw1⟩ : ∃ w1, w.alloc (.cells #[.int .i64 0, .int .i64 0, .string ⟨#[]⟩, .slice none 0 0, .slice none 0 0, .slice none 0 0] 25) = w1 := ⟨_, rfl⟩
 obtain ⟨hb1, hs1⟩ := new_below hw1
 have hR1 := Hp.new hw1
 have hPl := hSt.lt
 have hnx := next_yes P tb C xs t r 0 0 w1 (hSrc.below hb1) (hSt.below hb1) hG.cap hG.few hG.C2
 obtain ⟨R, hR⟩ : ∃ R, w.heap.size = R := ⟨_, rfl⟩
 rw [hR] at hR1 hPl hs1
 have HN : Hid (P < R ∧ w1.heap.size = R + 1 ∧ w.heap.size = R) := ⟨hPl, hs1, hR⟩
 have HSRC1 := Lib.hid (hSrc.below hb1)
 have HR1 := Lib.hid hR1
 have HK1 : Hid (Keep (fun k => k = P) w w1) := keep_of_below hb1
 have HG := Lib.hid hG
 clear hcal hTV htn hts hta hto hb1 hs1 hR1 hPl hSrc hSt hG hk
 go_enter Try.func28, Try.ntmps28
 go_wp2_with fail
 refine hnx.mono ?_
 rintro e w2 ⟨rfl, hst2, hk2⟩
 rw [HTV.out]
 obtain ⟨w3, hw3⟩ : ∃ w3, w2.alloc (.cells #[.int .i64 8, .int .i64 ta, .int .i64 tz, .int .i64 tn, .string ts] 47) = w3 := ⟨_, rfl⟩
 obtain ⟨hb3, hs3⟩ := new_below hw3
 have hT3 := Hp.new hw3
 have hR3 := (HR1.out.keep hk2 (by have := HN.out; omega)).below hb3
 have hcal3 := HCAL.out w3 ((HSRC1.out.keep hk2 (fun e => HG.out.ne e.symm)).below hb3) (hst2.below hb3)
 rw [HTV.out] at hcal3
 obtain ⟨T, hT⟩ : ∃ T, w2.heap.size = T := ⟨_, rfl⟩
 rw [hT] at hT3
 have HR3 := Lib.hid hR3
 have HK3 : Hid (Keep (fun k => k = P) w w3) := (HK1.out.trans hk2).trans (keep_of_below hb3)
 have y0 := hT3.cell 0 rfl
 have y1 := hT3.cell 1 rfl
 have y2 := hT3.cell 2 rfl
 have y3 := hT3.cell 3 rfl
 have y4 := hT3.cell 4 rfl
 clear hnx hst2 hk2 hb3 hs3 hT3 hR3 hw1
 go_wp2_with fail
 refine hcal3.mono ?_
 rintro e w5 ⟨y, vm, vl, vt, rest, a2, e2, rfl, hr5, hz5, hst5, hk5, hsay⟩
 obtain ⟨b1, m1, p1, b2, m2, p2, b3, m3, p3, rfl, rfl, rfl⟩ := hr5.forms
 have hR5 := HR3.out.keep hk5 (by have := HN.out; omega)
 have HE := Lib.hid (Rd.Out.fin (x := y) (HK3.out.trans hk5) (R := R) (by have := HN.out; omega) (by have := HN.out; omega) (Dt.Rep.mono (fun j hj _ => by have h1 := HN.out; have h2 := HR3.out.lt; omega) y hr5) hz5 hst5 hsay)
 have r0 := hR5.cell 0 rfl
 have r1 := hR5.cell 1 rfl
 have r2 := hR5.cell 2 rfl
 have r3 := hR5.cell 3 rfl
 have r4 := hR5.cell 4 rfl
 have r5 := hR5.cell 5 rfl
 have k0 := hR5.frz 0
 have k1 := hR5.frz 1
 have k2 := hR5.frz 2
 have k3 := hR5.frz 3
 have k4 := hR5.frz 4
 have k5 := hR5.frz 5
 clear hcal3 hr5 hz5 hst5 hk5 hsay hR5 y0 y1 y2 y3 y4 hw3
 go_wp2
 refine bodyPost_ret (v := .agg #[.int .i64 y.k, .int .i64 y.n, .string y.s, .slice b1 m1 p1, .slice b2 m2 p2, .slice b3 m3 p3]) (by simp [results, Try.results28, go_sem, *]) rfl ?_
 exact HE.out
set_option maxRecDepth 100000 in
set_option maxHeartbeats 8000000 in
theorem datum_9 (P tb C : Nat) (xs : List Lx.PTok) (hG : Rd.G P tb C xs) (t : Lx.PTok) (r : List Lx.PTok) (w : World) (hk : t.t.k = 9) (RES : Rd.Res) (hcal : ∀ W, Rd.Src W tb xs → Rd.St W P tb C xs r 0 0 → Calls Try.prog 41 #[.pointer (some ⟨P, 0, none⟩), Rd.tokV t] W (Rd.Out P tb C xs W RES)) (hSrc : Rd.Src w tb xs) (hSt : Rd.St w P tb C xs (t :: r) 0 0) :
  Calls Try.prog 28 #[.pointer (some ⟨P, 0, none⟩)] w (Rd.Out P tb C xs w RES) := by
 have HCAL := Lib.hid hcal
 have hTV : Rd.tokV t = .agg #[.int .i64 9, .int .i64 (t.at_ : Int), .int .i64 (t.to : Int), .int .i64 t.t.n, .string ⟨t.t.s.toArray⟩] := by unfold Rd.tokV; rw [hk]
 obtain ⟨tn, htn⟩ : ∃ tn, t.t.n = tn := ⟨_, rfl⟩
 obtain ⟨ts, hts⟩ : ∃ ts : ByteArray, ⟨t.t.s.toArray⟩ = ts := ⟨_, rfl⟩
 obtain ⟨ta, hta⟩ : ∃ ta : Int, (t.at_ : Int) = ta := ⟨_, rfl⟩
 obtain ⟨tz, hto⟩ : ∃ tz : Int, (t.to : Int) = tz := ⟨_, rfl⟩
 rw [htn, hts, hta, hto] at hTV
 have HTV := Lib.hid hTV
 obtain ⟨w1, hw1⟩ : ∃ w1, w.alloc (.cells #[.int .i64 0, .int .i64 0, .string ⟨#[]⟩, .slice none 0 0, .slice none 0 0, .slice none 0 0] 25) = w1 := ⟨_, rfl⟩
 obtain ⟨hb1, hs1⟩ := new_below hw1
 have hR1 := Hp.new hw1
 have hPl := hSt.lt
 have hnx := next_yes P tb C xs t r 0 0 w1 (hSrc.below hb1) (hSt.below hb1) hG.cap hG.few hG.C2
 obtain ⟨R, hR⟩ : ∃ R, w.heap.size = R := ⟨_, rfl⟩
 rw [hR] at hR1 hPl hs1
 have HN : Hid (P < R ∧ w1.heap.size = R + 1 ∧ w.heap.size = R) := ⟨hPl, hs1, hR⟩
 have HSRC1 := Lib.hid (hSrc.below hb1)
 have HR1 := Lib.hid hR1
 have HK1 : Hid (Keep (fun k => k = P) w w1) := keep_of_below hb1
 have HG := Lib.hid hG
 clear hcal hTV htn hts hta hto hb1 hs1 hR1 hPl hSrc hSt hG hk
 go_enter Try.func28, Try.ntmps28
 go_wp2_with fail
 refine hnx.mono ?_
 rintro e w2 ⟨rfl, hst2, hk2⟩
 rw [HTV.out]
 obtain ⟨w3, hw3⟩ : ∃ w3, w2.alloc (.cells #[.int .i64 9, .int .i64 ta, .int .i64 tz, .int .i64 tn, .string ts] 47) = w3 := ⟨_, rfl⟩
 obtain ⟨hb3, hs3⟩ := new_below hw3
 have hT3 := Hp.new hw3
 have hR3 := (HR1.out.keep hk2 (by have := HN.out; omega)).below hb3
 have hcal3 := HCAL.out w3 ((HSRC1.out.keep hk2 (fun e => HG.out.ne e.symm)).below hb3) (hst2.below hb3)
 rw [HTV.out] at hcal3
 obtain ⟨T, hT⟩ : ∃ T, w2.heap.size = T := ⟨_, rfl⟩
 rw [hT] at hT3
 have HR3 := Lib.hid hR3
 have HK3 : Hid (Keep (fun k => k = P) w w3) := (HK1.out.trans hk2).trans (keep_of_below hb3)
 have y0 := hT3.cell 0 rfl
 have y1 := hT3.cell 1 rfl
 have y2 := hT3.cell 2 rfl
 have y3 := hT3.cell 3 rfl
 have y4 := hT3.cell 4 rfl
 clear hnx hst2 hk2 hb3 hs3 hT3 hR3 hw1
 go_wp2_with fail
 refine hcal3.mono ?_
 rintro e w5 ⟨y, vm, vl, vt, rest, a2, e2, rfl, hr5, hz5, hst5, hk5, hsay⟩
 obtain ⟨b1, m1, p1, b2, m2, p2, b3, m3, p3, rfl, rfl, rfl⟩ := hr5.forms
 have hR5 := HR3.out.keep hk5 (by have := HN.out; omega)
 have HE := Lib.hid (Rd.Out.fin (x := y) (HK3.out.trans hk5) (R := R) (by have := HN.out; omega) (by have := HN.out; omega) (Dt.Rep.mono (fun j hj _ => by have h1 := HN.out; have h2 := HR3.out.lt; omega) y hr5) hz5 hst5 hsay)
 have r0 := hR5.cell 0 rfl
 have r1 := hR5.cell 1 rfl
 have r2 := hR5.cell 2 rfl
 have r3 := hR5.cell 3 rfl
 have r4 := hR5.cell 4 rfl
 have r5 := hR5.cell 5 rfl
 have k0 := hR5.frz 0
 have k1 := hR5.frz 1
 have k2 := hR5.frz 2
 have k3 := hR5.frz 3
 have k4 := hR5.frz 4
 have k5 := hR5.frz 5
 clear hcal3 hr5 hz5 hst5 hk5 hsay hR5 y0 y1 y2 y3 y4 hw3
 go_wp2
 refine bodyPost_ret (v := .agg #[.int .i64 y.k, .int .i64 y.n, .string y.s, .slice b1 m1 p1, .slice b2 m2 p2, .slice b3 m3 p3]) (by simp [results, Try.results28, go_sem, *]) rfl ?_
 exact HE.out
set_option maxRecDepth 100000 in
set_option maxHeartbeats 8000000 in
theorem datum_10 (P tb C : Nat) (xs : List Lx.PTok) (hG : Rd.G P tb C xs) (t : Lx.PTok) (r : List Lx.PTok) (w : World) (hk : t.t.k = 10) (RES : Rd.Res) (hcal : ∀ W, Rd.Src W tb xs → Rd.St W P tb C xs r 0 0 → Calls Try.prog 41 #[.pointer (some ⟨P, 0, none⟩), Rd.tokV t] W (Rd.Out P tb C xs W RES)) (hSrc : Rd.Src w tb xs) (hSt : Rd.St w P tb C xs (t :: r) 0 0) :
  Calls Try.prog 28 #[.pointer (some ⟨P, 0, none⟩)] w (Rd.Out P tb C xs w RES) := by
 have HCAL := Lib.hid hcal
 have hTV : Rd.tokV t = .agg #[.int .i64 10, .int .i64 (t.at_ : Int), .int .i64 (t.to : Int), .int .i64 t.t.n, .string ⟨t.t.s.toArray⟩] := by unfold Rd.tokV; rw [hk]
 obtain ⟨tn, htn⟩ : ∃ tn, t.t.n = tn := ⟨_, rfl⟩
 obtain ⟨ts, hts⟩ : ∃ ts : ByteArray, ⟨t.t.s.toArray⟩ = ts := ⟨_, rfl⟩
 obtain ⟨ta, hta⟩ : ∃ ta : Int, (t.at_ : Int) = ta := ⟨_, rfl⟩
 obtain ⟨tz, hto⟩ : ∃ tz : Int, (t.to : Int) = tz := ⟨_, rfl⟩
 rw [htn, hts, hta, hto] at hTV
 have HTV := Lib.hid hTV
 obtain ⟨w1, hw1⟩ : ∃ w1, w.alloc (.cells #[.int .i64 0, .int .i64 0, .string ⟨#[]⟩, .slice none 0 0, .slice none 0 0, .slice none 0 0] 25) = w1 := ⟨_, rfl⟩
 obtain ⟨hb1, hs1⟩ := new_below hw1
 have hR1 := Hp.new hw1
 have hPl := hSt.lt
 have hnx := next_yes P tb C xs t r 0 0 w1 (hSrc.below hb1) (hSt.below hb1) hG.cap hG.few hG.C2
 obtain ⟨R, hR⟩ : ∃ R, w.heap.size = R := ⟨_, rfl⟩
 rw [hR] at hR1 hPl hs1
 have HN : Hid (P < R ∧ w1.heap.size = R + 1 ∧ w.heap.size = R) := ⟨hPl, hs1, hR⟩
 have HSRC1 := Lib.hid (hSrc.below hb1)
 have HR1 := Lib.hid hR1
 have HK1 : Hid (Keep (fun k => k = P) w w1) := keep_of_below hb1
 have HG := Lib.hid hG
 clear hcal hTV htn hts hta hto hb1 hs1 hR1 hPl hSrc hSt hG hk
 go_enter Try.func28, Try.ntmps28
 go_wp2_with fail
 refine hnx.mono ?_
 rintro e w2 ⟨rfl, hst2, hk2⟩
 rw [HTV.out]
 obtain ⟨w3, hw3⟩ : ∃ w3, w2.alloc (.cells #[.int .i64 10, .int .i64 ta, .int .i64 tz, .int .i64 tn, .string ts] 47) = w3 := ⟨_, rfl⟩
 obtain ⟨hb3, hs3⟩ := new_below hw3
 have hT3 := Hp.new hw3
 have hR3 := (HR1.out.keep hk2 (by have := HN.out; omega)).below hb3
 have hcal3 := HCAL.out w3 ((HSRC1.out.keep hk2 (fun e => HG.out.ne e.symm)).below hb3) (hst2.below hb3)
 rw [HTV.out] at hcal3
 obtain ⟨T, hT⟩ : ∃ T, w2.heap.size = T := ⟨_, rfl⟩
 rw [hT] at hT3
 have HR3 := Lib.hid hR3
 have HK3 : Hid (Keep (fun k => k = P) w w3) := (HK1.out.trans hk2).trans (keep_of_below hb3)
 have y0 := hT3.cell 0 rfl
 have y1 := hT3.cell 1 rfl
 have y2 := hT3.cell 2 rfl
 have y3 := hT3.cell 3 rfl
 have y4 := hT3.cell 4 rfl
 clear hnx hst2 hk2 hb3 hs3 hT3 hR3 hw1
 go_wp2_with fail
 refine hcal3.mono ?_
 rintro e w5 ⟨y, vm, vl, vt, rest, a2, e2, rfl, hr5, hz5, hst5, hk5, hsay⟩
 obtain ⟨b1, m1, p1, b2, m2, p2, b3, m3, p3, rfl, rfl, rfl⟩ := hr5.forms
 have hR5 := HR3.out.keep hk5 (by have := HN.out; omega)
 have HE := Lib.hid (Rd.Out.fin (x := y) (HK3.out.trans hk5) (R := R) (by have := HN.out; omega) (by have := HN.out; omega) (Dt.Rep.mono (fun j hj _ => by have h1 := HN.out; have h2 := HR3.out.lt; omega) y hr5) hz5 hst5 hsay)
 have r0 := hR5.cell 0 rfl
 have r1 := hR5.cell 1 rfl
 have r2 := hR5.cell 2 rfl
 have r3 := hR5.cell 3 rfl
 have r4 := hR5.cell 4 rfl
 have r5 := hR5.cell 5 rfl
 have k0 := hR5.frz 0
 have k1 := hR5.frz 1
 have k2 := hR5.frz 2
 have k3 := hR5.frz 3
 have k4 := hR5.frz 4
 have k5 := hR5.frz 5
 clear hcal3 hr5 hz5 hst5 hk5 hsay hR5 y0 y1 y2 y3 y4 hw3
 go_wp2
 refine bodyPost_ret (v := .agg #[.int .i64 y.k, .int .i64 y.n, .string y.s, .slice b1 m1 p1, .slice b2 m2 p2, .slice b3 m3 p3]) (by simp [results, Try.results28, go_sem, *]) rfl ?_
 exact HE.out
set_option maxRecDepth 100000 in
set_option maxHeartbeats 8000000 in
theorem datum_11 (P tb C : Nat) (xs : List Lx.PTok) (hG : Rd.G P tb C xs) (t : Lx.PTok) (r : List Lx.PTok) (w : World) (hk : t.t.k = 11) (RES : Rd.Res) (hcal : ∀ W, Rd.Src W tb xs → Rd.St W P tb C xs r 0 0 → Calls Try.prog 41 #[.pointer (some ⟨P, 0, none⟩), Rd.tokV t] W (Rd.Out P tb C xs W RES)) (hSrc : Rd.Src w tb xs) (hSt : Rd.St w P tb C xs (t :: r) 0 0) :
  Calls Try.prog 28 #[.pointer (some ⟨P, 0, none⟩)] w (Rd.Out P tb C xs w RES) := by
 have HCAL := Lib.hid hcal
 have hTV : Rd.tokV t = .agg #[.int .i64 11, .int .i64 (t.at_ : Int), .int .i64 (t.to : Int), .int .i64 t.t.n, .string ⟨t.t.s.toArray⟩] := by unfold Rd.tokV; rw [hk]
 obtain ⟨tn, htn⟩ : ∃ tn, t.t.n = tn := ⟨_, rfl⟩
 obtain ⟨ts, hts⟩ : ∃ ts : ByteArray, ⟨t.t.s.toArray⟩ = ts := ⟨_, rfl⟩
 obtain ⟨ta, hta⟩ : ∃ ta : Int, (t.at_ : Int) = ta := ⟨_, rfl⟩
 obtain ⟨tz, hto⟩ : ∃ tz : Int, (t.to : Int) = tz := ⟨_, rfl⟩
 rw [htn, hts, hta, hto] at hTV
 have HTV := Lib.hid hTV
 obtain ⟨w1, hw1⟩ : ∃ w1, w.alloc (.cells #[.int .i64 0, .int .i64 0, .string ⟨#[]⟩, .slice none 0 0, .slice none 0 0, .slice none 0 0] 25) = w1 := ⟨_, rfl⟩
 obtain ⟨hb1, hs1⟩ := new_below hw1
 have hR1 := Hp.new hw1
 have hPl := hSt.lt
 have hnx := next_yes P tb C xs t r 0 0 w1 (hSrc.below hb1) (hSt.below hb1) hG.cap hG.few hG.C2
 obtain ⟨R, hR⟩ : ∃ R, w.heap.size = R := ⟨_, rfl⟩
 rw [hR] at hR1 hPl hs1
 have HN : Hid (P < R ∧ w1.heap.size = R + 1 ∧ w.heap.size = R) := ⟨hPl, hs1, hR⟩
 have HSRC1 := Lib.hid (hSrc.below hb1)
 have HR1 := Lib.hid hR1
 have HK1 : Hid (Keep (fun k => k = P) w w1) := keep_of_below hb1
 have HG := Lib.hid hG
 clear hcal hTV htn hts hta hto hb1 hs1 hR1 hPl hSrc hSt hG hk
 go_enter Try.func28, Try.ntmps28
 go_wp2_with fail
 refine hnx.mono ?_
 rintro e w2 ⟨rfl, hst2, hk2⟩
 rw [HTV.out]
 obtain ⟨w3, hw3⟩ : ∃ w3, w2.alloc (.cells #[.int .i64 11, .int .i64 ta, .int .i64 tz, .int .i64 tn, .string ts] 47) = w3 := ⟨_, rfl⟩
 obtain ⟨hb3, hs3⟩ := new_below hw3
 have hT3 := Hp.new hw3
 have hR3 := (HR1.out.keep hk2 (by have := HN.out; omega)).below hb3
 have hcal3 := HCAL.out w3 ((HSRC1.out.keep hk2 (fun e => HG.out.ne e.symm)).below hb3) (hst2.below hb3)
 rw [HTV.out] at hcal3
 obtain ⟨T, hT⟩ : ∃ T, w2.heap.size = T := ⟨_, rfl⟩
 rw [hT] at hT3
 have HR3 := Lib.hid hR3
 have HK3 : Hid (Keep (fun k => k = P) w w3) := (HK1.out.trans hk2).trans (keep_of_below hb3)
 have y0 := hT3.cell 0 rfl
 have y1 := hT3.cell 1 rfl
 have y2 := hT3.cell 2 rfl
 have y3 := hT3.cell 3 rfl
 have y4 := hT3.cell 4 rfl
 clear hnx hst2 hk2 hb3 hs3 hT3 hR3 hw1
 go_wp2_with fail
 refine hcal3.mono ?_
 rintro e w5 ⟨y, vm, vl, vt, rest, a2, e2, rfl, hr5, hz5, hst5, hk5, hsay⟩
 obtain ⟨b1, m1, p1, b2, m2, p2, b3, m3, p3, rfl, rfl, rfl⟩ := hr5.forms
 have hR5 := HR3.out.keep hk5 (by have := HN.out; omega)
 have HE := Lib.hid (Rd.Out.fin (x := y) (HK3.out.trans hk5) (R := R) (by have := HN.out; omega) (by have := HN.out; omega) (Dt.Rep.mono (fun j hj _ => by have h1 := HN.out; have h2 := HR3.out.lt; omega) y hr5) hz5 hst5 hsay)
 have r0 := hR5.cell 0 rfl
 have r1 := hR5.cell 1 rfl
 have r2 := hR5.cell 2 rfl
 have r3 := hR5.cell 3 rfl
 have r4 := hR5.cell 4 rfl
 have r5 := hR5.cell 5 rfl
 have k0 := hR5.frz 0
 have k1 := hR5.frz 1
 have k2 := hR5.frz 2
 have k3 := hR5.frz 3
 have k4 := hR5.frz 4
 have k5 := hR5.frz 5
 clear hcal3 hr5 hz5 hst5 hk5 hsay hR5 y0 y1 y2 y3 y4 hw3
 go_wp2
 refine bodyPost_ret (v := .agg #[.int .i64 y.k, .int .i64 y.n, .string y.s, .slice b1 m1 p1, .slice b2 m2 p2, .slice b3 m3 p3]) (by simp [results, Try.results28, go_sem, *]) rfl ?_
 exact HE.out
set_option maxRecDepth 100000 in
set_option maxHeartbeats 8000000 in
theorem datum_12 (P tb C : Nat) (xs : List Lx.PTok) (hG : Rd.G P tb C xs) (t : Lx.PTok) (r : List Lx.PTok) (w : World) (hk : t.t.k = 12) (RES : Rd.Res) (hcal : ∀ W, Rd.Src W tb xs → Rd.St W P tb C xs r 0 0 → Calls Try.prog 41 #[.pointer (some ⟨P, 0, none⟩), Rd.tokV t] W (Rd.Out P tb C xs W RES)) (hSrc : Rd.Src w tb xs) (hSt : Rd.St w P tb C xs (t :: r) 0 0) :
  Calls Try.prog 28 #[.pointer (some ⟨P, 0, none⟩)] w (Rd.Out P tb C xs w RES) := by
 have HCAL := Lib.hid hcal
 have hTV : Rd.tokV t = .agg #[.int .i64 12, .int .i64 (t.at_ : Int), .int .i64 (t.to : Int), .int .i64 t.t.n, .string ⟨t.t.s.toArray⟩] := by unfold Rd.tokV; rw [hk]
 obtain ⟨tn, htn⟩ : ∃ tn, t.t.n = tn := ⟨_, rfl⟩
 obtain ⟨ts, hts⟩ : ∃ ts : ByteArray, ⟨t.t.s.toArray⟩ = ts := ⟨_, rfl⟩
 obtain ⟨ta, hta⟩ : ∃ ta : Int, (t.at_ : Int) = ta := ⟨_, rfl⟩
 obtain ⟨tz, hto⟩ : ∃ tz : Int, (t.to : Int) = tz := ⟨_, rfl⟩
 rw [htn, hts, hta, hto] at hTV
 have HTV := Lib.hid hTV
 obtain ⟨w1, hw1⟩ : ∃ w1, w.alloc (.cells #[.int .i64 0, .int .i64 0, .string ⟨#[]⟩, .slice none 0 0, .slice none 0 0, .slice none 0 0] 25) = w1 := ⟨_, rfl⟩
 obtain ⟨hb1, hs1⟩ := new_below hw1
 have hR1 := Hp.new hw1
 have hPl := hSt.lt
 have hnx := next_yes P tb C xs t r 0 0 w1 (hSrc.below hb1) (hSt.below hb1) hG.cap hG.few hG.C2
 obtain ⟨R, hR⟩ : ∃ R, w.heap.size = R := ⟨_, rfl⟩
 rw [hR] at hR1 hPl hs1
 have HN : Hid (P < R ∧ w1.heap.size = R + 1 ∧ w.heap.size = R) := ⟨hPl, hs1, hR⟩
 have HSRC1 := Lib.hid (hSrc.below hb1)
 have HR1 := Lib.hid hR1
 have HK1 : Hid (Keep (fun k => k = P) w w1) := keep_of_below hb1
 have HG := Lib.hid hG
 clear hcal hTV htn hts hta hto hb1 hs1 hR1 hPl hSrc hSt hG hk
 go_enter Try.func28, Try.ntmps28
 go_wp2_with fail
 refine hnx.mono ?_
 rintro e w2 ⟨rfl, hst2, hk2⟩
 rw [HTV.out]
 obtain ⟨w3, hw3⟩ : ∃ w3, w2.alloc (.cells #[.int .i64 12, .int .i64 ta, .int .i64 tz, .int .i64 tn, .string ts] 47) = w3 := ⟨_, rfl⟩
 obtain ⟨hb3, hs3⟩ := new_below hw3
 have hT3 := Hp.new hw3
 have hR3 := (HR1.out.keep hk2 (by have := HN.out; omega)).below hb3
 have hcal3 := HCAL.out w3 ((HSRC1.out.keep hk2 (fun e => HG.out.ne e.symm)).below hb3) (hst2.below hb3)
 rw [HTV.out] at hcal3
 obtain ⟨T, hT⟩ : ∃ T, w2.heap.size = T := ⟨_, rfl⟩
 rw [hT] at hT3
 have HR3 := Lib.hid hR3
 have HK3 : Hid (Keep (fun k => k = P) w w3) := (HK1.out.trans hk2).trans (keep_of_below hb3)
 have y0 := hT3.cell 0 rfl
 have y1 := hT3.cell 1 rfl
 have y2 := hT3.cell 2 rfl
 have y3 := hT3.cell 3 rfl
 have y4 := hT3.cell 4 rfl
 clear hnx hst2 hk2 hb3 hs3 hT3 hR3 hw1
 go_wp2_with fail
 refine hcal3.mono ?_
 rintro e w5 ⟨y, vm, vl, vt, rest, a2, e2, rfl, hr5, hz5, hst5, hk5, hsay⟩
 obtain ⟨b1, m1, p1, b2, m2, p2, b3, m3, p3, rfl, rfl, rfl⟩ := hr5.forms
 have hR5 := HR3.out.keep hk5 (by have := HN.out; omega)
 have HE := Lib.hid (Rd.Out.fin (x := y) (HK3.out.trans hk5) (R := R) (by have := HN.out; omega) (by have := HN.out; omega) (Dt.Rep.mono (fun j hj _ => by have h1 := HN.out; have h2 := HR3.out.lt; omega) y hr5) hz5 hst5 hsay)
 have r0 := hR5.cell 0 rfl
 have r1 := hR5.cell 1 rfl
 have r2 := hR5.cell 2 rfl
 have r3 := hR5.cell 3 rfl
 have r4 := hR5.cell 4 rfl
 have r5 := hR5.cell 5 rfl
 have k0 := hR5.frz 0
 have k1 := hR5.frz 1
 have k2 := hR5.frz 2
 have k3 := hR5.frz 3
 have k4 := hR5.frz 4
 have k5 := hR5.frz 5
 clear hcal3 hr5 hz5 hst5 hk5 hsay hR5 y0 y1 y2 y3 y4 hw3
 go_wp2
 refine bodyPost_ret (v := .agg #[.int .i64 y.k, .int .i64 y.n, .string y.s, .slice b1 m1 p1, .slice b2 m2 p2, .slice b3 m3 p3]) (by simp [results, Try.results28, go_sem, *]) rfl ?_
 exact HE.out
set_option maxRecDepth 100000 in
set_option maxHeartbeats 8000000 in
theorem datum_13 (P tb C : Nat) (xs : List Lx.PTok) (hG : Rd.G P tb C xs) (t : Lx.PTok) (r : List Lx.PTok) (w : World) (hk : t.t.k = 13) (RES : Rd.Res) (hcal : ∀ W, Rd.Src W tb xs → Rd.St W P tb C xs r 0 0 → Calls Try.prog 41 #[.pointer (some ⟨P, 0, none⟩), Rd.tokV t] W (Rd.Out P tb C xs W RES)) (hSrc : Rd.Src w tb xs) (hSt : Rd.St w P tb C xs (t :: r) 0 0) :
  Calls Try.prog 28 #[.pointer (some ⟨P, 0, none⟩)] w (Rd.Out P tb C xs w RES) := by
 have HCAL := Lib.hid hcal
 have hTV : Rd.tokV t = .agg #[.int .i64 13, .int .i64 (t.at_ : Int), .int .i64 (t.to : Int), .int .i64 t.t.n, .string ⟨t.t.s.toArray⟩] := by unfold Rd.tokV; rw [hk]
 obtain ⟨tn, htn⟩ : ∃ tn, t.t.n = tn := ⟨_, rfl⟩
 obtain ⟨ts, hts⟩ : ∃ ts : ByteArray, ⟨t.t.s.toArray⟩ = ts := ⟨_, rfl⟩
 obtain ⟨ta, hta⟩ : ∃ ta : Int, (t.at_ : Int) = ta := ⟨_, rfl⟩
 obtain ⟨tz, hto⟩ : ∃ tz : Int, (t.to : Int) = tz := ⟨_, rfl⟩
 rw [htn, hts, hta, hto] at hTV
 have HTV := Lib.hid hTV
 obtain ⟨w1, hw1⟩ : ∃ w1, w.alloc (.cells #[.int .i64 0, .int .i64 0, .string ⟨#[]⟩, .slice none 0 0, .slice none 0 0, .slice none 0 0] 25) = w1 := ⟨_, rfl⟩
 obtain ⟨hb1, hs1⟩ := new_below hw1
 have hR1 := Hp.new hw1
 have hPl := hSt.lt
 have hnx := next_yes P tb C xs t r 0 0 w1 (hSrc.below hb1) (hSt.below hb1) hG.cap hG.few hG.C2
 obtain ⟨R, hR⟩ : ∃ R, w.heap.size = R := ⟨_, rfl⟩
 rw [hR] at hR1 hPl hs1
 have HN : Hid (P < R ∧ w1.heap.size = R + 1 ∧ w.heap.size = R) := ⟨hPl, hs1, hR⟩
 have HSRC1 := Lib.hid (hSrc.below hb1)
 have HR1 := Lib.hid hR1
 have HK1 : Hid (Keep (fun k => k = P) w w1) := keep_of_below hb1
 have HG := Lib.hid hG
 clear hcal hTV htn hts hta hto hb1 hs1 hR1 hPl hSrc hSt hG hk
 go_enter Try.func28, Try.ntmps28
 go_wp2_with fail
 refine hnx.mono ?_
 rintro e w2 ⟨rfl, hst2, hk2⟩
 rw [HTV.out]
 obtain ⟨w3, hw3⟩ : ∃ w3, w2.alloc (.cells #[.int .i64 13, .int .i64 ta, .int .i64 tz, .int .i64 tn, .string ts] 47) = w3 := ⟨_, rfl⟩
 obtain ⟨hb3, hs3⟩ := new_below hw3
 have hT3 := Hp.new hw3
 have hR3 := (HR1.out.keep hk2 (by have := HN.out; omega)).below hb3
 have hcal3 := HCAL.out w3 ((HSRC1.out.keep hk2 (fun e => HG.out.ne e.symm)).below hb3) (hst2.below hb3)
 rw [HTV.out] at hcal3
 obtain ⟨T, hT⟩ : ∃ T, w2.heap.size = T := ⟨_, rfl⟩
 rw [hT] at hT3
 have HR3 := Lib.hid hR3
 have HK3 : Hid (Keep (fun k => k = P) w w3) := (HK1.out.trans hk2).trans (keep_of_below hb3)
 have y0 := hT3.cell 0 rfl
 have y1 := hT3.cell 1 rfl
 have y2 := hT3.cell 2 rfl
 have y3 := hT3.cell 3 rfl
 have y4 := hT3.cell 4 rfl
 clear hnx hst2 hk2 hb3 hs3 hT3 hR3 hw1
 go_wp2_with fail
 refine hcal3.mono ?_
 rintro e w5 ⟨y, vm, vl, vt, rest, a2, e2, rfl, hr5, hz5, hst5, hk5, hsay⟩
 obtain ⟨b1, m1, p1, b2, m2, p2, b3, m3, p3, rfl, rfl, rfl⟩ := hr5.forms
 have hR5 := HR3.out.keep hk5 (by have := HN.out; omega)
 have HE := Lib.hid (Rd.Out.fin (x := y) (HK3.out.trans hk5) (R := R) (by have := HN.out; omega) (by have := HN.out; omega) (Dt.Rep.mono (fun j hj _ => by have h1 := HN.out; have h2 := HR3.out.lt; omega) y hr5) hz5 hst5 hsay)
 have r0 := hR5.cell 0 rfl
 have r1 := hR5.cell 1 rfl
 have r2 := hR5.cell 2 rfl
 have r3 := hR5.cell 3 rfl
 have r4 := hR5.cell 4 rfl
 have r5 := hR5.cell 5 rfl
 have k0 := hR5.frz 0
 have k1 := hR5.frz 1
 have k2 := hR5.frz 2
 have k3 := hR5.frz 3
 have k4 := hR5.frz 4
 have k5 := hR5.frz 5
 clear hcal3 hr5 hz5 hst5 hk5 hsay hR5 y0 y1 y2 y3 y4 hw3
 go_wp2
 refine bodyPost_ret (v := .agg #[.int .i64 y.k, .int .i64 y.n, .string y.s, .slice b1 m1 p1, .slice b2 m2 p2, .slice b3 m3 p3]) (by simp [results, Try.results28, go_sem, *]) rfl ?_
 exact HE.out
theorem datum_step (P tb C : Nat) (xs : List Lx.PTok) (hG : Rd.G P tb C xs) (f : Nat) (hD : ∀ g, g < f → Rd.DatumIs P tb C xs g) : Rd.DatumIs P tb C xs f := by
 intro ts w hne hSrc hSt hR
 cases f with
 | zero => exact absurd (by rw [Rd.pd]) hR
 | succ q =>
  cases ts with
  | nil => exact absurd rfl hne
  | cons t r =>
   have hD' : ∀ g, g < q → Rd.DatumIs P tb C xs g := fun g hg => hD g (by omega)
   have hmem : t ∈ xs := by obtain ⟨_, pre, -, hpre, -⟩ := hSt; rw [hpre]; simp
   obtain ⟨h1, h2⟩ := hG.ok t hmem
   obtain ⟨k, hk⟩ : ∃ k, t.t.k = k := ⟨_, rfl⟩
   rw [hk] at h1 h2
   obtain rfl | rfl | rfl | rfl | rfl | rfl | rfl | rfl | rfl | rfl | rfl | rfl | rfl : k = 1 ∨ k = 2 ∨ k = 3 ∨ k = 4 ∨ k = 5 ∨ k = 6 ∨ k = 7 ∨ k = 8 ∨ k = 9 ∨ k = 10 ∨ k = 11 ∨ k = 12 ∨ k = 13 := by omega
   ·have e : Rd.pd (q + 1) (t :: r) = Rd.pl q t.at_ [] r := by rw [Rd.pd, if_pos hk]
    rw [e] at hR ⊢
    exact datum_1 P tb C xs hG t r w hk _ (fun W hs hst => list_any P tb C xs hG q hD' t r W hs hst hR) hSrc hSt
   ·have e : Rd.pd (q + 1) (t :: r) = .bad t.at_ 40 := by rw [Rd.pd, if_neg (by omega), if_neg (by omega), if_pos (by omega)]
    rw [e]
    exact datum_2 P tb C xs hG t r w hk _ (fun W hs hst => (stray_any P tb C xs r t W hst).mono fun _ _ h => Rd.Out.of_fail h (by decide)) hSrc hSt
   ·have e : Rd.pd (q + 1) (t :: r) = Rd.pv q t.at_ [] r := by rw [Rd.pd, if_neg (by omega), if_pos hk]
    rw [e] at hR ⊢
    exact datum_3 P tb C xs hG t r w hk _ (fun W hs hst => vector_any P tb C xs hG q hD' t r W hs hst hR) hSrc hSt
   ·have e : Rd.pd (q + 1) (t :: r) = Rd.pq q t.at_ 4 r := by rw [Rd.pd, if_neg (by omega), if_neg (by omega), if_neg (by omega), if_pos (by omega), hk]
    rw [e] at hR ⊢
    exact datum_4 P tb C xs hG t r w hk _ (fun W hs hst => by unfold Rd.tokV; rw [hk]; exact quote_4 P tb C xs hG q hD' t.at_ _ _ _ r W hs hst hR) hSrc hSt
   ·have e : Rd.pd (q + 1) (t :: r) = Rd.pq q t.at_ 5 r := by rw [Rd.pd, if_neg (by omega), if_neg (by omega), if_neg (by omega), if_pos (by omega), hk]
    rw [e] at hR ⊢
    exact datum_5 P tb C xs hG t r w hk _ (fun W hs hst => by unfold Rd.tokV; rw [hk]; exact quote_5 P tb C xs hG q hD' t.at_ _ _ _ r W hs hst hR) hSrc hSt
   ·have e : Rd.pd (q + 1) (t :: r) = Rd.pq q t.at_ 6 r := by rw [Rd.pd, if_neg (by omega), if_neg (by omega), if_neg (by omega), if_pos (by omega), hk]
    rw [e] at hR ⊢
    exact datum_6 P tb C xs hG t r w hk _ (fun W hs hst => by unfold Rd.tokV; rw [hk]; exact quote_6 P tb C xs hG q hD' t.at_ _ _ _ r W hs hst hR) hSrc hSt
   ·have e : Rd.pd (q + 1) (t :: r) = Rd.pq q t.at_ 7 r := by rw [Rd.pd, if_neg (by omega), if_neg (by omega), if_neg (by omega), if_pos (by omega), hk]
    rw [e] at hR ⊢
    exact datum_7 P tb C xs hG t r w hk _ (fun W hs hst => by unfold Rd.tokV; rw [hk]; exact quote_7 P tb C xs hG q hD' t.at_ _ _ _ r W hs hst hR) hSrc hSt
   ·have e : Rd.pd (q + 1) (t :: r) = .bad t.at_ 40 := by rw [Rd.pd, if_neg (by omega), if_neg (by omega), if_pos (by omega)]
    rw [e]
    exact datum_8 P tb C xs hG t r w hk _ (fun W hs hst => (stray_any P tb C xs r t W hst).mono fun _ _ h => Rd.Out.of_fail h (by decide)) hSrc hSt
   ·have e : Rd.pd (q + 1) (t :: r) = .ok (Rd.leafD t.t) r := by rw [Rd.pd, if_neg (by omega), if_neg (by omega), if_neg (by omega), if_neg (by omega)]
    rw [e]
    exact datum_9 P tb C xs hG t r w hk _ (fun W hs hst => by unfold Rd.tokV; rw [hk]; exact (leaf_9 P _ _ _ _ W).mono fun _ _ h => Rd.Out.of_leaf hst (by rw [hk]; exact h.1) h.2) hSrc hSt
   ·have e : Rd.pd (q + 1) (t :: r) = .ok (Rd.leafD t.t) r := by rw [Rd.pd, if_neg (by omega), if_neg (by omega), if_neg (by omega), if_neg (by omega)]
    rw [e]
    exact datum_10 P tb C xs hG t r w hk _ (fun W hs hst => by unfold Rd.tokV; rw [hk]; exact (leaf_10 P _ _ _ _ W).mono fun _ _ h => Rd.Out.of_leaf hst (by rw [hk]; exact h.1) h.2) hSrc hSt
   ·have e : Rd.pd (q + 1) (t :: r) = .ok (Rd.leafD t.t) r := by rw [Rd.pd, if_neg (by omega), if_neg (by omega), if_neg (by omega), if_neg (by omega)]
    rw [e]
    exact datum_11 P tb C xs hG t r w hk _ (fun W hs hst => by unfold Rd.tokV; rw [hk]; exact (leaf_11 P _ _ _ _ W).mono fun _ _ h => Rd.Out.of_leaf hst (by rw [hk]; exact h.1) h.2) hSrc hSt
   ·have e : Rd.pd (q + 1) (t :: r) = .ok (Rd.leafD t.t) r := by rw [Rd.pd, if_neg (by omega), if_neg (by omega), if_neg (by omega), if_neg (by omega)]
    rw [e]
    exact datum_12 P tb C xs hG t r w hk _ (fun W hs hst => by unfold Rd.tokV; rw [hk]; exact (leaf_12 P _ _ _ _ W).mono fun _ _ h => Rd.Out.of_leaf hst (by rw [hk]; exact h.1) h.2) hSrc hSt
   ·have e : Rd.pd (q + 1) (t :: r) = .ok (Rd.leafD t.t) r := by rw [Rd.pd, if_neg (by omega), if_neg (by omega), if_neg (by omega), if_neg (by omega)]
    rw [e]
    exact datum_13 P tb C xs hG t r w hk _ (fun W hs hst => by unfold Rd.tokV; rw [hk]; exact (leaf_13 P _ _ _ _ W).mono fun _ _ h => Rd.Out.of_leaf hst (by rw [hk]; exact h.1) h.2) hSrc hSt
theorem datum_any (P tb C : Nat) (xs : List Lx.PTok) (hG : Rd.G P tb C xs) (f : Nat) : Rd.DatumIs P tb C xs f := by
 induction f using Nat.strongRecOn with
 | _ f ih => exact datum_step P tb C xs hG f ih
end Go.Proofs.Ytcopdfihaheplaa
namespace Go.Proofs.Ytcopdfihaheplaa
open Go.RowKit
namespace Lx
theorem sign_kind (t : List UInt8) (h : (sign t).1 ≠ 0) : 1 ≤ (sign t).1 ∧ (sign t).1 ≤ 7 := by
 have h7 : (sign t).1 ≤ 7 := by
  unfold sign
  repeat' split
  all_goals decide
 omega
theorem run_kind (t r : List UInt8) (k : Tok) (h : run t = .tok k r) : 1 ≤ k.k ∧ k.k ≤ 13 := by
 unfold run at h
 simp only at h
 split at h
 ·cases h; simp
 split at h
 ·cases h; simp
 split at h
 ·cases h; simp
 split at h
 ·split at h
  ·cases h; simp
  ·split at h <;> cases h
 ·split at h
  ·cases h; simp
  ·cases h
theorem word_kind (t r : List UInt8) (k : Tok) (h : word t = .tok k r) : 1 ≤ k.k ∧ k.k ≤ 13 := by
 unfold word at h
 split at h
 ·rename_i h0
  have := sign_kind t h0
  cases h
  show 1 ≤ ((sign t).1 : Int) ∧ ((sign t).1 : Int) ≤ 13
  omega
 split at h
 ·unfold str at h
  split at h
  ·cases h
  ·split at h
   ·split at h <;> cases h
    simp
   ·cases h
 split at h
 ·unfold char at h
  split at h
  ·cases h
  split at h <;> cases h
  simp
 ·exact run_kind t r k h
theorem words_kinds (N : Nat) : ∀ (f c : Nat) (t : List UInt8), ∀ p ∈ (words N f c t).1, 1 ≤ p.t.k ∧ p.t.k ≤ 13
 | 0, c, t, p, hp => by rw [words] at hp; cases hp
 | f + 1, c, t, p, hp => by
  rw [words] at hp
  simp only at hp
  split at hp
  ·cases hp
  split at hp
  ·cases hp
  split at hp
  ·cases hp
  split at hp
  ·cases hp
  ·rename_i k rest hw
   split at hp
   ·rcases List.mem_cons.1 hp with rfl | hp
    ·exact word_kind _ _ _ hw
    ·exact words_kinds N f (c + 1) rest p hp
   ·cases hp
theorem lex_kinds (s : List UInt8) : ∀ p ∈ (lex s).1, 1 ≤ p.t.k ∧ p.t.k ≤ 13 := by
 unfold lex
 split
 ·intro p hp; cases hp
 split
 ·intro p hp; cases hp
 ·exact words_kinds _ _ _ _
end Lx
namespace Rd
open Dt Lx
set_option maxRecDepth 100000 in
theorem infoF : (Try.prog.info? 43).map (fun i => (i.zero, i.size, i.bytes)) = some (some (.agg #[.int .i64 0, .int .i64 0, .int .i64 0, .string ⟨#[]⟩, .slice none 0 0, .slice none 0 0, .slice none 0 0]), 7, 112) := by kernel_rfl
def cells7 (p : Nat × Dt.P) : List Value := .int .i64 (p.1 : Int) :: p.2.cells
def flatF (fs : List (Nat × Dt.P)) : List Value := fs.flatMap cells7
structure FRow (w : World) (base : Nat) (v : Value) (fs : List (Nat × Dt.P)) : Prop where
 row : w.ownsRow base 43 7 v fs.length (flatF fs)
 rep : ∀ p ∈ fs, Rep (fun k => base ≤ k ∧ v.ownBlock ≠ some k) w p.2.d p.2.vm p.2.vl p.2.vt
theorem FRow.nil (w : World) (base : Nat) : FRow w base (.slice none 0 0) [] := ⟨World.ownsRow_nil _ _ _ _, by simp⟩
theorem FRow.keep {S : Nat → Prop} {w w' : World} {base : Nat} {v : Value} {fs : List (Nat × Dt.P)} (h : FRow w base v fs) (hk : Keep S w w') (hS : ∀ k, base ≤ k → k < w.heap.size → ¬ S k) : FRow w' base v fs :=
 ⟨own_keep h.row hk (fun k hk => hS k (own_lt h.row k hk).1 (own_lt h.row k hk).2), fun p hp => Rep.keep hk (fun b hb hb' => hS b hb.1 hb') p.2.d (h.rep p hp)⟩
theorem FRow.below {w w' : World} {base : Nat} {v : Value} {fs : List (Nat × Dt.P)} (h : FRow w base v fs) (hb : Below w.heap.size w w') : FRow w' base v fs :=
 h.keep (S := fun _ => False) ((Keep.refl _ w).below hb) (fun _ _ _ h => h)
theorem FRow.push {w wA w5 : World} {base : Nat} {v v' : Value} {fs : List (Nat × Dt.P)} {p : Nat × Dt.P} (h : FRow w base v fs) (hp : Rep (fun k => base ≤ k ∧ v.ownBlock ≠ some k) w p.2.d p.2.vm p.2.vl p.2.vt) (hA : Below w.heap.size w wA)
  (hown : w5.ownsRow base 43 7 v' (fs.length + 1) (flatF fs ++ cells7 p)) (hg : wA.grownBy w5 v.ownBlock) (hat : v'.ownBlock = v.ownBlock ∨ v'.ownBlock = some wA.heap.size) :
  FRow w5 base v' (fs ++ [p]) ∧ Keep (fun k => v.ownBlock = some k) w w5 := by
 have hK : Keep (fun k => v.ownBlock = some k) w w5 := ⟨hg.os.trans hA.os, hg.tape.trans hA.tape, hg.output.trans hA.output, Nat.le_trans hA.size hg.size, fun k hk hn => (hg.block k (by have := hA.size; omega) (fun e => hn e.symm)).trans (hA.block k hk)⟩
 refine ⟨⟨?_, fun q hq => ?_⟩, hK⟩
 ·have e : flatF (fs ++ [p]) = flatF fs ++ cells7 p := by unfold flatF; rw [List.flatMap_append, List.flatMap_singleton]
  rw [List.length_append, e]
  exact hown
 ·have hq' : Rep (fun k => base ≤ k ∧ v.ownBlock ≠ some k) w q.2.d q.2.vm q.2.vl q.2.vt := by
   rcases List.mem_append.1 hq with hq | hq
   ·exact h.rep q hq
   ·obtain rfl : q = p := by simpa using hq
    exact hp
  have hr0 : Rep (fun k => k < w.heap.size ∧ base ≤ k ∧ v.ownBlock ≠ some k) w q.2.d q.2.vm q.2.vl q.2.vt := Rep.mono (fun b hb hl => ⟨hl, hb⟩) q.2.d hq'
  refine Rep.mono (fun b hb _ => ⟨hb.2.1, fun e => ?_⟩) q.2.d (Rep.keep hK (fun b hb _ e => hb.2.2 e) q.2.d hr0)
  rcases hat with e' | e'
  ·rw [e'] at e; exact hb.2.2 e
  ·rw [e'] at e; cases e; have := hA.size; omega
def ReadPost (R : List (Nat × D) × Nat × Int) (w : World) (e : Ending) (w' : World) : Prop :=
 ∃ (a : Option Addr) (c : Nat) (fs : List (Nat × Dt.P)), e = .returned (.tuple #[.slice a R.1.length c, .int .i64 (R.2.1 : Int), .int .i64 R.2.2]) ∧ FRow w' w.heap.size (.slice a R.1.length c) fs ∧ fs.map (fun p => (p.1, p.2.d)) = R.1 ∧ Below w.heap.size w w'
theorem ReadPost.no {R : List (Nat × D) × Nat × Int} {w w' : World} {p : Nat} {c : Int} (h : R = ([], p, c)) (hb : Below w.heap.size w w') : ReadPost R w (.returned (.tuple #[.slice none 0 0, .int .i64 (p : Int), .int .i64 c])) w' := by
 subst h
 exact ⟨none, 0, [], rfl, FRow.nil _ _, rfl, hb⟩
theorem src_of_row {w : World} {base g cap : Nat} {xs : List PTok} (h : w.ownsRow base 47 5 (.slice (some ⟨g, 0, none⟩) xs.length cap) xs.length (flatT xs)) : Src w g xs :=
 ⟨(h.lt g rfl).2, fun i hi => Lx.Row.five (fun j u hu => by have := h.cells (g := g) rfl j u hu; rw [Addr.add_mid, Nat.zero_add] at this; exact this) i hi⟩
end Rd
end Go.Proofs.Ytcopdfihaheplaa
namespace Go.Proofs.Ytcopdfihaheplaa
namespace Lx
def V (k : Tok) : Prop := -4611686018427387904 ≤ k.n ∧ k.n ≤ 4611686018427387904 ∧ k.s.length ≤ 256
theorem hex_bd (c : UInt8) (x : Nat) (h : hexOf c = some x) : x ≤ 255 := by
 have := c.toNat_lt
 unfold hexOf at h
 split at h
 ·cases h; omega
 split at h
 ·cases h; omega
 ·cases h
theorem two_bd (t : List UInt8) : -1 ≤ two t ∧ two t ≤ 1000 := by
 unfold two
 split
 ·rename_i h l r
  split
  ·rename_i x y hx hy
   have := hex_bd _ _ hx
   have := hex_bd _ _ hy
   split <;> omega
  ·omega
 ·omega
theorem names_bd (t : List UInt8) : -1 ≤ names t ∧ names t ≤ 1000 := by
 unfold names
 repeat' split
 all_goals first | omega | exact two_bd _ | (have := (t.headD 0).toNat_lt; omega)
theorem symbol_len (w : List UInt8) (h : symbol w = true) : w.length ≤ 32 := by
 unfold symbol at h
 simp only [Bool.or_eq_true, Bool.and_eq_true, decide_eq_true_eq, beq_iff_eq] at h
 rcases h with ((h | h) | h) | h
 ·rw [h]; decide
 ·rw [h]; decide
 ·rw [h]; decide
 ·exact h.1.1.2
theorem run_val (t r : List UInt8) (k : Tok) (h : run t = .tok k r) : V k := by
 unfold run at h
 simp only at h
 split at h
 ·cases h; exact ⟨by decide, by decide, by decide⟩
 split at h
 ·cases h; exact ⟨by decide, by decide, by decide⟩
 split at h
 ·cases h; exact ⟨by decide, by decide, by decide⟩
 split at h
 ·split at h
  ·rename_i h0
   cases h
   have hp : Fx.parse (t.takeWhile fun c => !ends c) = ((Fx.parse (t.takeWhile fun c => !ends c)).1, 0) := by rw [← h0]
   have := Fx.isF_bd (Fx.text_parse _ _ hp).1
   refine ⟨?_, ?_, by simp⟩
   ·show _ ≤ (Fx.parse (t.takeWhile fun c => !ends c)).1; omega
   ·show (Fx.parse (t.takeWhile fun c => !ends c)).1 ≤ _; omega
  ·split at h <;> cases h
 ·split at h
  ·rename_i hs
   cases h
   exact ⟨by simp, by simp, by have := symbol_len _ hs; show (t.takeWhile fun c => !ends c).length ≤ 256; omega⟩
  ·cases h
theorem word_val (t r : List UInt8) (k : Tok) (h : word t = .tok k r) : V k := by
 unfold word at h
 split at h
 ·cases h; exact ⟨by simp, by simp, by simp⟩
 split at h
 ·unfold str at h
  split at h
  ·cases h
  ·split at h
   ·split at h
    ·rename_i hq
     cases h
     exact ⟨by simp, by simp, hq⟩
    ·cases h
   ·cases h
 split at h
 ·unfold char at h
  split at h
  ·cases h
  split at h
  ·cases h
  ·cases h
   have := names_bd ((t.drop 2).take (nameLen (t.drop 2)))
   refine ⟨?_, ?_, by simp⟩
   ·show _ ≤ names ((t.drop 2).take (nameLen (t.drop 2))); omega
   ·show names ((t.drop 2).take (nameLen (t.drop 2))) ≤ _; omega
 ·exact run_val t r k h
theorem words_vals (N : Nat) : ∀ (f c : Nat) (t : List UInt8), ∀ p ∈ (words N f c t).1, V p.t
 | 0, c, t, p, hp => by rw [words] at hp; cases hp
 | f + 1, c, t, p, hp => by
  rw [words] at hp
  simp only at hp
  split at hp
  ·cases hp
  split at hp
  ·cases hp
  split at hp
  ·cases hp
  split at hp
  ·cases hp
  ·rename_i k rest hw
   split at hp
   ·rcases List.mem_cons.1 hp with rfl | hp
    ·exact word_val _ _ _ hw
    ·exact words_vals N f (c + 1) rest p hp
   ·cases hp
theorem lex_vals (s : List UInt8) : ∀ p ∈ (lex s).1, V p.t := by
 unfold lex
 split
 ·intro p hp; cases hp
 split
 ·intro p hp; cases hp
 ·exact words_vals _ _ _ _
end Lx
namespace Rd
open Dt Lx
def Vs (ts : List PTok) : Prop := ∀ p ∈ ts, V p.t
theorem wfs_app : ∀ {l r : List D}, Wfs l → Wfs r → Wfs (l ++ r)
 | [], _, _, h => h
 | d :: l, r, h1, h2 => by
  rw [Wfs] at h1
  rw [List.cons_append, Wfs]
  exact ⟨h1.1, wfs_app h1.2 h2⟩
theorem wfs_one {d : D} (h : Wf d) : Wfs [d] := by rw [Wfs, Wfs]; exact ⟨h, trivial⟩
theorem wfs_nil : Wfs [] := by rw [Wfs]; trivial
theorem wf_leaf {t : Tok} (h : V t) : Wf (leafD t) := by
 unfold leafD
 rw [Wf]
 refine ⟨⟨by have := h.1; omega, by have := h.2.1; omega⟩, ?_, by simp, by simp, by simp, wfs_nil, wfs_nil⟩
 have h2 := h.2.2
 show (⟨t.s.toArray⟩ : ByteArray).size ≤ _
 have : (⟨t.s.toArray⟩ : ByteArray).size = t.s.length := by show t.s.toArray.size = _; simp
 omega
theorem wf_row (k : Int) {l : List D} (h : Wfs l) (hl : l.length ≤ 100000) : Wf (.mk k 0 ⟨#[]⟩ [] l []) := by
 rw [Wf]
 exact ⟨by decide, by decide, by simp, by omega, by simp, h, wfs_nil⟩
theorem wf_sgn (k : Int) : Wf (symD (sgn k)) := by
 unfold symD
 rw [Wf]
 refine ⟨by decide, ?_, by simp, by simp, by simp, wfs_nil, wfs_nil⟩
 unfold sgn
 repeat' split
 all_goals decide
theorem wf_lt {d : D} (h : Wf d) : Wfs d.l ∧ Wfs d.t ∧ d.t.length ≤ 140737488355328 := by
 cases d
 rw [Wf] at h
 exact ⟨h.2.2.2.2.2.1, h.2.2.2.2.2.2, h.2.2.2.2.1⟩
theorem wf_join {acc : List D} {d : D} (ha : Wfs acc) (hl : acc.length + d.l.length ≤ 100000) (h : Wf d) : Wf (joinD acc d) := by
 obtain ⟨h1, h2, h3⟩ := wf_lt h
 unfold joinD
 split
 ·rw [Wf]
  exact ⟨by decide, by decide, by simp, by rw [List.length_append]; omega, h3, wfs_app ha h1, h2⟩
 ·rw [Wf]
  exact ⟨by decide, by decide, by simp, by omega, by simp, ha, wfs_one h⟩
def WR : Res → Prop
 | .ok d rest => Wf d ∧ Vs rest
 | _ => True
theorem res_wf : ∀ f, (∀ ts, ts.length ≤ 4096 → Vs ts → WR (pd f ts)) ∧ (∀ a k ts, ts.length ≤ 4096 → Vs ts → WR (pq f a k ts)) ∧ (∀ a acc ts, acc.length + ts.length ≤ 4096 → Wfs acc → Vs ts → WR (pl f a acc ts)) ∧ (∀ a acc ts, acc.length + ts.length ≤ 4096 → Wfs acc → Vs ts → WR (pt f a acc ts)) ∧ (∀ a acc ts, acc.length + ts.length ≤ 4096 → Wfs acc → Vs ts → WR (pv f a acc ts)) := by
 intro f
 induction f with
 | zero => exact ⟨fun _ _ _ => by rw [pd]; trivial, fun _ _ _ _ _ => by rw [pq]; trivial, fun _ _ _ _ _ _ => by rw [pl]; trivial, fun _ _ _ _ _ _ => by rw [pt]; trivial, fun _ _ _ _ _ _ => by rw [pv]; trivial⟩
 | succ f ih =>
  obtain ⟨h1, h2, h3, h4, h5⟩ := ih
  have htl : ∀ {t : PTok} {r : List PTok}, Vs (t :: r) → Vs r := fun h p hp => h p (List.mem_cons_of_mem _ hp)
  refine ⟨fun ts hn hv => ?_, fun a k ts hn hv => ?_, fun a acc ts hn ha hv => ?_, fun a acc ts hn ha hv => ?_, fun a acc ts hn ha hv => ?_⟩
  ·cases ts with
   | nil => rw [pd]; trivial
   | cons t r =>
    rw [pd]
    simp only [List.length_cons] at hn
    split
    ·exact h3 _ [] r (by simp; omega) wfs_nil (htl hv)
    split
    ·exact h5 _ [] r (by simp; omega) wfs_nil (htl hv)
    split
    ·trivial
    split
    ·exact h2 _ _ r (by omega) (htl hv)
    ·exact ⟨wf_leaf (hv t List.mem_cons_self), htl hv⟩
  ·cases ts with
   | nil => rw [pq]; trivial
   | cons x r =>
    rw [pq]
    have hw := h1 (x :: r) hn hv
    cases hp : pd f (x :: r) with
    | ok d rest =>
     rw [hp] at hw
     refine ⟨?_, hw.2⟩
     unfold quoteD listD
     refine wf_row 6 ?_ (by simp)
     rw [Wfs]
     exact ⟨wf_sgn k, wfs_one hw.1⟩
    | bad => trivial
    | out => trivial
  ·cases ts with
   | nil => rw [pl]; trivial
   | cons x r =>
    rw [pl]
    have hn' := hn
    simp only [List.length_cons] at hn
    split
    ·exact ⟨wf_row 6 ha (by omega), htl hv⟩
    split
    ·exact h4 _ acc r (by omega) ha (htl hv)
    ·have hw := h1 (x :: r) (by simp; omega) hv
     have hl := (res_len f).1 (x :: r) r.length (by simp)
     cases hp : pd f (x :: r) with
     | ok d rest => rw [hp] at hl hw; have : rest.length ≤ r.length := hl; exact h3 _ (acc ++ [d]) rest (by simp; omega) (wfs_app ha (wfs_one hw.1)) hw.2
     | bad => trivial
     | out => trivial
  ·cases ts with
   | nil => rw [pt]; trivial
   | cons x r =>
    rw [pt]
    have hw := h1 (x :: r) (by omega) hv
    have hm := (res_many f).1 (x :: r)
    cases hp : pd f (x :: r) with
    | ok d rest =>
     rw [hp] at hm hw
     cases rest with
     | nil => trivial
     | cons y rest =>
      have h6 : d.l.length + (rest.length + 1) ≤ (x :: r).length := hm
      simp only
      split
      ·exact ⟨wf_join ha (by omega) hw.1, htl hw.2⟩
      ·trivial
    | bad => trivial
    | out => trivial
  ·cases ts with
   | nil => rw [pv]; trivial
   | cons x r =>
    rw [pv]
    simp only [List.length_cons] at hn
    split
    ·exact ⟨wf_row 8 ha (by omega), htl hv⟩
    ·have hw := h1 (x :: r) (by simp; omega) hv
     have hl := (res_len f).1 (x :: r) r.length (by simp)
     cases hp : pd f (x :: r) with
     | ok d rest => rw [hp] at hl hw; have : rest.length ≤ r.length := hl; exact h5 _ (acc ++ [d]) rest (by simp; omega) (wfs_app ha (wfs_one hw.1)) hw.2
     | bad => trivial
     | out => trivial
end Rd
end Go.Proofs.Ytcopdfihaheplaa
namespace Go.Proofs.Ytcopdfihaheplaa
open Go.RowKit
attribute [local go_sem] Oper.semAt_some
namespace Lx
theorem lex_zeroR (s : List UInt8) (h : (lex s).2.2 = 0) : (lex s).2.1 = 0 := by
 unfold lex at h ⊢
 split
 ·rfl
 ·rename_i h1
  rw [if_neg h1] at h
  split
  ·rename_i h2; rw [if_pos h2] at h; simp at h
  ·rename_i h2
   rw [if_neg h2] at h
   have hn := words_norm s.length (s.length + 1) 0 s
   unfold app at hn
   rw [if_pos h] at hn
   rw [← hn]
end Lx
namespace Rd
open Dt Lx
theorem words_form {w w1 : World} {v : Value} {xs : List PTok} (hown : w1.ownsRow w.heap.size 47 5 v xs.length (flatT xs)) :
  ∃ a C tb, v = .slice a xs.length C ∧ (xs ≠ [] → a = some ⟨tb, 0, none⟩ ∧ Src w1 tb xs) ∧ w1.heap.size ≠ tb ∧ xs.length ≤ C ∧ C ≤ 9223372036854775807 := by
 have hown' := hown
 rcases hown.2 with ⟨rfl, hz⟩ | ⟨g, cap, cur, rfl, _, hg, h1, h2, _⟩
 ·exact ⟨none, 0, w1.heap.size + 1, by rw [hz], fun h => absurd (List.eq_nil_of_length_eq_zero hz) h, by omega, by omega, by omega⟩
 ·exact ⟨_, cap, g, rfl, fun _ => ⟨rfl, src_of_row hown'⟩, by have := (Array.getElem?_eq_some_iff.1 hg).1; omega, h1, h2⟩
theorem FRow.le {w : World} {base base' : Nat} {v : Value} {fs : List (Nat × Dt.P)} (h : FRow w base v fs) (hb : base' ≤ base) : FRow w base' v fs :=
 ⟨own_base h.row hb, fun p hp => Rep.mono (fun b h1 _ => ⟨by omega, h1.2⟩) p.2.d (h.rep p hp)⟩
theorem src7 {w wD : World} {a b c d e f g : Value} {t : TypeId} (h : w.alloc (.cells #[a, b, c, d, e, f, g] t) = wD) : Ap.Src wD (.slice (some ⟨w.heap.size, 0, none⟩) 1 1) 1 [a, b, c, d, e, f, g] :=
 .inr ⟨_, _, rfl, fun j u hu => by
  rw [Addr.add_mid, Nat.zero_add]
  have h2 : #[a, b, c, d, e, f, g][j]? = some u := by rw [← hu]; simp
  exact (Hp.new h).cell j h2⟩
end Rd
set_option maxRecDepth 100000 in
set_option maxHeartbeats 16000000 in
theorem readRead_any (s : ByteArray) (w : World) (hs : s.size ≤ 9223372036854775807) :
  Calls Try.prog 14 #[.string s] w (Rd.ReadPost (Rd.read s.data.toList) w) := by
 have hW := Words_any s w hs
 have HVL := Lib.hid (Lx.lex_vals s.data.toList)
 have HKS := Lib.hid (Lx.lex_kinds s.data.toList)
 have HFW : Hid (∀ l, Lx.lex s.data.toList = (l, 0, 0) → l.length ≤ 4096) := Lx.lex_few _
 obtain ⟨RR, hRR⟩ : ∃ RR, Rd.read s.data.toList = RR := ⟨_, rfl⟩
 rw [hRR]
 unfold Rd.read at hRR
 have HLZ : Hid ((Lx.lex s.data.toList).2.2 = 0 → Lx.lex s.data.toList = ((Lx.lex s.data.toList).1, 0, 0)) := fun h => Prod.ext rfl (Prod.ext (Lx.lex_zeroR _ h) h)
 obtain ⟨LL, hLL⟩ : ∃ LL, Lx.lex s.data.toList = LL := ⟨_, rfl⟩
 rw [hLL] at hW HVL HKS hRR HFW HLZ
 obtain ⟨xs, lp, lc⟩ := LL
 simp only at hRR
 clear hLL
 go_enter Try.func14, Try.ntmps14
 go_wp2_with fail
 refine hW.mono ?_
 rintro e w1 ⟨hb1, ⟨hc, v, rfl, hown⟩ | ⟨hc, rfl⟩⟩
 case inr =>
  simp only at hc
  rw [if_pos hc] at hRR
  have hc1 : (lc != 0) = true := by simpa using hc
  have HE := Lib.hid (Rd.ReadPost.no hRR.symm hb1)
  clear hW hRR hb1 hc
  go_wp2
  refine bodyPost_ret (v := .tuple #[.slice none 0 0, .int .i64 (lp : Int), .int .i64 lc]) (by simp [results, Try.results14, go_sem, *]) rfl ?_
  exact HE.out
 case inl =>
  simp only at hc hown
  subst hc
  rw [if_neg (by decide)] at hRR
  obtain ⟨a0, C, tb, rfl, hSrc, hPtb, hxC, hC2⟩ := Rd.words_form hown
  have hfew : xs.length ≤ 4096 := HFW.out xs (HLZ.out rfl)
  obtain ⟨P, hP⟩ : ∃ P, w1.heap.size = P := ⟨_, rfl⟩
  obtain ⟨w2, hw2⟩ : ∃ w2, w1.alloc (.cells #[.slice a0 xs.length C, .int .i64 0, .int .i64 0] 69) = w2 := ⟨_, rfl⟩
  obtain ⟨hb2, hs2⟩ := new_below hw2
  have hP2 := Hp.new hw2
  rw [hP] at hP2 hs2 hPtb
  have HG : Hid (Rd.G P tb C xs) := ⟨hPtb, hxC, hfew, hC2, HKS.out⟩
  have HST2 : Hid (Rd.St w2 P tb C xs xs 0 0) := ⟨a0, [], hP2, rfl, fun h => (hSrc h).1⟩
  have HSRC : Hid (xs ≠ [] → Rd.Src w2 tb xs) := fun h => (hSrc h).2.below hb2
  have HB2 : Hid (Below w.heap.size w w2) := hb1.trans (hb2.mono hb1.size)
  have HS2 : Hid (w2.heap.size = P + 1 ∧ w.heap.size ≤ P) := ⟨hs2, by have := hb1.size; omega⟩
  have HRR : Hid (Rd.rf (xs.length + 1) xs [] = RR) := hRR
  have HR0 : Hid (Rd.FRow w2 (P + 1) (.slice none 0 0) [] ∧ ([] : List (Nat × Dt.P)).length = 0) := ⟨Rd.FRow.nil _ _, rfl⟩
  have HW2 := Lib.hid hw2
  obtain ⟨i0, hi, hz0, hz1, hz2⟩ := info_parts Rd.infoF
  have HI1 := Lib.hid hi
  have HZ0 := Lib.hid hz0
  have HZ1 := Lib.hid hz1
  have HZ2 := Lib.hid hz2
  have HPP := Lib.hid hP
  have HVX : Hid (∀ p ∈ xs, Lx.V p.t) := HVL.out
  clear hW hown hSrc hPtb hxC hC2 hfew hb1 hb2 hs2 hP2 hRR hi hz0 hz1 hz2 HVL HKS HFW HLZ hw2
  go_wp2
  rw [HW2.out]
  clear hP
  go_loopw [9] (fun vo wr => ∃ (k : Nat) (qs : List (Nat × Dt.P)) (al : Option Addr) (cl f : Nat) (us : List Lx.PTok), vo = .slice al k cl ∧ Hid (Rd.FRow wr (P + 1) (.slice al k cl) qs ∧ qs.length = k ∧ k ≤ 256) ∧ Hid (Rd.St wr P tb C xs us 0 0) ∧ Hid (Rd.rf f us (qs.map (fun p => (p.1, p.2.d))) = RR ∧ us.length + 1 ≤ f) ∧ Hid (Keep (fun j => P ≤ j) w2 wr)) (fun _ wr => Rd.meas wr P)
  case atStart => exact ⟨0, [], none, 0, xs.length + 1, xs, rfl, ⟨HR0.out.1, rfl, by omega⟩, HST2, ⟨HRR.out, Nat.le_refl _⟩, Keep.refl _ _⟩
  case round =>
   clear HR0 HST2 HRR
   obtain ⟨k, qs, al, cl, f, us, rfl, HRW, HST, HF, HK⟩ := hrel
   obtain ⟨pa, pre, hP, hpre, hpa⟩ := HST.out
   have hmeas := HST.out.meas
   have p0 := hP.cell 0 rfl
   have HBW : Hid (Below w.heap.size w wr) := HB2.out.trans (HK.out.to_below (fun j e => by have := HS2.out; omega) (by have := HS2.out; have := HB2.out.size; omega))
   obtain ⟨q, rfl⟩ : ∃ q, f = q + 1 := ⟨f - 1, by have := HF.out.2; omega⟩
   have HUS : Hid (∀ p ∈ us, Lx.V p.t) := fun p hp => HVX.out p (by rw [hpre]; exact List.mem_append_right _ hp)
   cases us with
   | nil =>
    have hrf := HF.out.1
    rw [Rd.rf] at hrf
    have HE : Hid (Rd.ReadPost RR w (.returned (.tuple #[.slice al k cl, .int .i64 0, .int .i64 0])) wr) := by
     have hl := HRW.out.2.1
     rw [← hrf]
     subst hl
     refine ⟨al, cl, qs, by simp, ?_, rfl, HBW.out⟩
     have := HRW.out.1.le (base' := w.heap.size) (by have := HS2.out; omega)
     simpa using this
    rw [List.length_nil] at p0
    clear hP hpre hpa hmeas hrf
    go_wp2
    refine bodyPost_ret (v := .tuple #[.slice al k cl, .int .i64 0, .int .i64 0]) (by simp [results, Try.results14, go_sem, *]) rfl ?_
    exact HE.out
   | cons t r =>
    obtain rfl := hpa (by simp)
    have hlen : xs.length = pre.length + (r.length + 1) := by rw [hpre]; simp
    have hpi : pre.length < xs.length := by omega
    have hxne : xs ≠ [] := fun e => by rw [e] at hpi; exact absurd hpi (Nat.not_lt_zero _)
    have hsrc := (HSRC.out hxne).keep HK.out (fun e => by
     have h1 := (HSRC.out hxne).lt
     have h2 := HG.out.ne
     have h3 := HS2.out.1
     omega)
    obtain ⟨-, x1, -, -, -⟩ := hsrc.tok pre.length hpi
    have hxi : xs[pre.length] = t := by simp only [hpre]; simp
    rw [hxi] at x1
    rw [show (t :: r).length = r.length + 1 from rfl] at p0
    have hrf := HF.out.1
    rw [Rd.rf] at hrf
    have hrl : r.length ≤ 4095 := by have := HG.out.few; omega
    have HWF := (Rd.res_wf (2 * (r.length + 1))).1 (t :: r) (by simp only [List.length_cons]; omega) HUS.out
    have hfl : r.length + 1 ≤ q := by have := HF.out.2; simp only [List.length_cons] at this; omega
    have hdo : Rd.pd (2 * (r.length + 1)) (t :: r) ≠ .out := (Rd.fuel _).1 (t :: r) (by simp only [List.length_cons]; omega) (by simp)
    have hrs := (Rd.res_len (2 * (r.length + 1))).1 (t :: r) r.length (by simp)
    have hcall := datum_any P tb C xs HG.out (2 * (r.length + 1)) (t :: r) wr (by simp) hsrc HST.out hdo
    obtain ⟨RES, hRES⟩ : ∃ RES, Rd.pd (2 * (r.length + 1)) (t :: r) = RES := ⟨_, rfl⟩
    rw [hRES] at hrf HWF hdo hrs hcall
    obtain ⟨n, hn⟩ : ∃ n, r.length = n := ⟨_, rfl⟩
    obtain ⟨cc, hcc⟩ : ∃ cc, C - pre.length = cc := ⟨_, rfl⟩
    obtain ⟨qq, hqq⟩ : ∃ qq, pre.length * 5 = qq := ⟨_, rfl⟩
    obtain ⟨ta, hta⟩ : ∃ ta, t.at_ = ta := ⟨_, rfl⟩
    rw [hn, hcc, hqq] at p0
    rw [hqq, hta] at x1
    rw [hta] at hrf
    rw [List.length_map, HRW.out.2.1] at hrf
    have hn0 : (0 : Int) < (n : Int) + 1 := by omega
    have hn1 : (0 : Int) ≤ (n : Int) := by omega
    have HN : Hid (r.length = n) := hn
    have HQ : Hid (n + 1 ≤ q) := by have := hn ▸ hfl; exact this
    clear hP hpre hpa hlen hpi hxi hn hcc hqq hta hfl hRES hrl hsrc
    by_cases h256 : k = 256
    case pos =>
     rw [if_pos h256] at hrf
     have HE := Lib.hid (Rd.ReadPost.no hrf.symm HBW.out)
     have hki : (k : Int) = 256 := by omega
     have hk1 : ((k : Int) == 256) = true := by simp [hki]
     clear hcall hdo hrs HWF hrf hmeas h256 hki
     go_wp2
     refine bodyPost_ret (v := .tuple #[.slice none 0 0, .int .i64 (ta : Int), .int .i64 3]) (by simp [results, Try.results14, go_sem, *]) rfl ?_
     exact HE.out
    case neg =>
     rw [if_neg h256] at hrf
     have hk1 : ((k : Int) == 256) = false := by simp; omega
     have HK1 : Hid (k + 1 ≤ 256) := by have := HRW.out.2.2; show _ ≤ _; omega
     have HRF := Lib.hid hrf
     have HDO := Lib.hid hdo
     have HRS := Lib.hid hrs
     have HWFH := Lib.hid HWF
     have HM := Lib.hid hmeas
     clear hrf hdo hrs HWF hmeas h256
     go_wp2_with fail
     refine hcall.mono ?_
     rintro e w4 ⟨y, vm, vl, vt, rest, a2, e2, rfl, hr4, hz4, hst4, hk4, hsays⟩
     obtain ⟨b1, m1, p1, b2, m2, p2, b3, m3, p3, rfl, rfl, rfl⟩ := hr4.forms
     clear hcall p0 x1
     have hrow4 := HRW.out.1.keep hk4 (fun j hj _ e => by omega)
     obtain ⟨w5, hw5⟩ : ∃ w5, w4.alloc (.cells #[.int .i64 y.k, .int .i64 y.n, .string y.s, .slice b1 m1 p1, .slice b2 m2 p2, .slice b3 m3 p3] 25) = w5 := ⟨_, rfl⟩
     obtain ⟨hb5, hs5⟩ := new_below hw5
     have hX5 := Hp.new hw5
     obtain ⟨X, hX⟩ : ∃ X, w4.heap.size = X := ⟨_, rfl⟩
     rw [hX] at hX5
     have hrow5 := hrow4.below hb5
     have hst5 := hst4.below hb5
     have hr5 := hr4.below hb5
     have HK5 : Hid (Keep (fun j => j = P) wr w5) := hk4.trans (keep_of_below hb5)
     have HROW5 := Lib.hid hrow5
     have HST5 := Lib.hid hst5
     have HR5 := Lib.hid hr5
     have HX5 := Lib.hid hX5
     have HWR : Hid (P + 1 ≤ wr.heap.size) := by have h1 := HS2.out.1; have h2 := HK.out.size; show _ ≤ _; omega
     obtain ⟨pa5, pre5, hP5, hpre5, hpa5⟩ := hst5
     have p1' := hP5.cell 1 rfl
     have p2' := hP5.cell 2 rfl
     clear hb5 hs5 hrow4 hst4 hk4 hr4 hz4
     rcases hsays with ⟨hpd, rfl, rfl⟩ | ⟨b, c, hpd, rfl, rfl, hc0⟩
     case inr =>
      have he1 : (e2 != 0) = true := by simpa using hc0
      have hrf := HRF.out
      rw [hpd] at hrf
      have hbw : Below w.heap.size w w5 := HBW.out.trans (HK5.out.to_below (fun j e => by have := HS2.out; omega) (by have := HBW.out.size; omega))
      have HE : Hid (∀ z, Rd.ReadPost RR w (.returned (.tuple #[.slice none 0 0, .int .i64 (b : Int), .int .i64 e2])) (w5.drewN z)) := fun z => Rd.ReadPost.no hrf.symm (Dt.bdrew hbw z)
      clear hrow5 hr5 hX5 hP5 hpre5 hpa5 hpd hc0 hrf hbw
      go_wp2
      go_quiet (fail)
      go_wp2
      refine bodyPost_ret (v := .tuple #[.slice none 0 0, .int .i64 (b : Int), .int .i64 e2]) (by simp [results, Try.results14, go_sem, *]) rfl ?_
      exact HE.out _
     case inl =>
      have he1 : ((0 : Int) != 0) = false := rfl
      have hwf : Dt.Wf y := by have := HWFH.out; rw [hpd] at this; exact this.1
      have hck := dCheck_any y _ _ _ w5 hwf hr5
      have hrf := HRF.out
      rw [hpd] at hrf
      simp only at hrf
      have hrl : rest.length ≤ r.length := by have := HRS.out; rw [hpd] at this; exact this
      have x0 := hX5.cell 0 rfl
      have x1 := hX5.cell 1 rfl
      have x2 := hX5.cell 2 rfl
      have x3 := hX5.cell 3 rfl
      have x4 := hX5.cell 4 rfl
      have x5 := hX5.cell 5 rfl
      obtain ⟨CK, hCK⟩ : ∃ CK, Dt.check y = CK := ⟨_, rfl⟩
      rw [hCK] at hck hrf
      have HRF2 := Lib.hid hrf
      have HRL := Lib.hid hrl
      clear hrow5 hr5 hX5 hP5 hpre5 hpa5 hpd hrf hrl hwf hCK
      go_wp2_with fail
      refine hck.mono ?_
      rintro e w6 ⟨rfl, hb6⟩
      clear hck p1' p2' x0 x1 x2 x3 x4 x5 hw5
      by_cases h0 : CK = 0
      case neg =>
       have h1 : (CK != 0) = true := by simpa using h0
       have hrf := HRF2.out
       rw [if_neg h0] at hrf
       have hbw : Below w.heap.size w w6 := (HBW.out.trans (HK5.out.to_below (fun j e => by have := HS2.out; omega) (by have := HBW.out.size; omega))).trans (hb6.mono (by have := HBW.out.size; have := HK5.out.size; omega))
       have HE := Lib.hid (Rd.ReadPost.no hrf.symm hbw)
       clear hrf hbw h0 hb6
       go_wp2
       refine bodyPost_ret (v := .tuple #[.slice none 0 0, .int .i64 (ta : Int), .int .i64 CK]) (by simp [results, Try.results14, go_sem, *]) rfl ?_
       exact HE.out
      case pos =>
       subst h0
       have h1 : ((0 : Int) != 0) = false := rfl
       have hX6 := HX5.out.below hb6
       have hrow6 := HROW5.out.below hb6
       have hst6 := HST5.out.below hb6
       have hr6 := HR5.out.below hb6
       have x0 := hX6.cell 0 rfl
       have x1 := hX6.cell 1 rfl
       have x2 := hX6.cell 2 rfl
       have x3 := hX6.cell 3 rfl
       have x4 := hX6.cell 4 rfl
       have x5 := hX6.cell 5 rfl
       obtain ⟨w7, hw7⟩ : ∃ w7, w6.alloc (.cells #[.int .i64 (ta : Int), .int .i64 y.k, .int .i64 y.n, .string y.s, .slice b1 m1 p1, .slice b2 m2 p2, .slice b3 m3 p3] 43) = w7 := ⟨_, rfl⟩
       have hb7 := (new_below hw7).1
       have hsr7 := Rd.src7 hw7
       have hown7 := (hrow6.below hb7).row
       rw [HRW.out.2.1] at hown7
       have hbs7 : P + 1 ≤ w7.heap.size := by have h1 := HWR.out; have h2 := HK5.out.size; have h3 := hb6.size; have h4 := hb7.size; omega
       have hm1 : k + 1 ≤ maxLen := by have := HK1.out; unfold maxLen; omega
       have hm2 : (k + 1) * 112 ≤ 140737488355328 := by have := HK1.out; omega
       have HROW6 := Lib.hid hrow6
       have HST6 := Lib.hid hst6
       have HR6 := Lib.hid hr6
       have HB7 := Lib.hid hb7
       have HK6 : Hid (Keep (fun j => j = P) wr w6) := HK5.out.trans (keep_of_below hb6)
       clear hX6 hrow6 hst6 hr6 hb7 hb6
       go_wp2_with (at_builtin; refine Ap.list rfl _ _ 39 rfl (P + 1) 43 i0 (.agg #[.int .i64 0, .int .i64 0, .int .i64 0, .string ⟨#[]⟩, .slice none 0 0, .slice none 0 0, .slice none 0 0]) 7 112 Try.underlying39 HI1.out HZ0.out HZ1.out HZ2.out rfl (by decide) (.slice al k cl) k (Rd.flatF qs) rfl hown7 (.slice (some ⟨w6.heap.size, 0, none⟩) 1 1) 1 [.int .i64 (ta : Int), .int .i64 y.k, .int .i64 y.n, .string y.s, .slice b1 m1 p1, .slice b2 m2 p2, .slice b3 m3 p3] rfl hsr7 rfl (by simp [Value.oneCell']) hm1 hm2 hbs7 ?_)
       intro v8 w8 hown8 hgr8 hat8
       obtain ⟨a8, c8, rfl⟩ := Dt.row_form hown8
       have hlq := HRW.out.2.1
       have hvb : ∀ j, (Value.slice al k cl).ownBlock = some j → P + 1 ≤ j ∧ j < wr.heap.size := fun j e => Dt.own_lt HRW.out.1.row j e
       obtain ⟨g1, g2⟩ := HROW6.out.push (p := (ta, ⟨y, .slice b1 m1 p1, .slice b2 m2 p2, .slice b3 m3 p3⟩)) (Dt.Rep.mono (fun j hj _ => ⟨by have := HWR.out; omega, fun e => by have := hvb j e; omega⟩) y HR6.out) HB7.out (by rw [hlq]; exact hown8) hgr8 hat8
       have hst8 : Rd.St w8 P tb C xs rest 0 0 := HST6.out.keep g2 (fun e => by have := hvb P e; omega)
       have HN8 : Hid (Rd.FRow w8 (P + 1) (.slice a8 (k + 1) c8) (qs ++ [(ta, Dt.P.mk y (.slice b1 m1 p1) (.slice b2 m2 p2) (.slice b3 m3 p3))]) ∧ (qs ++ [(ta, Dt.P.mk y (.slice b1 m1 p1) (.slice b2 m2 p2) (.slice b3 m3 p3))]).length = k + 1 ∧ k + 1 ≤ 256) := ⟨g1, by rw [List.length_append, hlq]; rfl, HK1.out⟩
       have HF8 : Hid (Rd.rf q rest ((qs ++ [(ta, Dt.P.mk y (.slice b1 m1 p1) (.slice b2 m2 p2) (.slice b3 m3 p3))]).map (fun p => (p.1, p.2.d))) = RR ∧ rest.length + 1 ≤ q) := by
        refine ⟨?_, by have h1 := HRL.out; have h2 := HN.out; have h3 := HQ.out; omega⟩
        have hrf := HRF2.out
        rw [if_pos trivial] at hrf
        rw [List.map_append]
        exact hrf
       have HK8 : Hid (Keep (fun j => P ≤ j) w2 w8) := (HK.out.trans (HK6.out.le (fun j e => by omega))).trans (g2.le (fun j e => by have := hvb j e; omega))
       have HST8 := Lib.hid hst8
       have HM8 : Hid (Rd.meas w8 P < Rd.meas wr P) := by
        show _ < _
        rw [hst8.meas, HM.out, if_pos rfl, if_pos trivial]
        have h1 := HRL.out
        simp only [List.length_cons]
        omega
       clear hown8 hgr8 hat8 hlq hvb g1 g2 hst8 hown7 hsr7 hbs7 hm1 hm2 hw7 x0 x1 x2 x3 x4 x5
       go_wp2
       go_roundw
       case rel => exact ⟨k + 1, _, a8, c8, q, rest, rfl, HN8, HST8, HF8, HK8⟩
       case measure => exact HM8.out
end Go.Proofs.Ytcopdfihaheplaa
namespace Go.Proofs.Ytcopdfihaheplaa
open Go.RowKit
attribute [local go_sem] Oper.semAt_some
namespace Rd
open Dt Lx
def zd : D := .mk 0 0 ⟨#[]⟩ [] [] []
def oneR (R : List (Nat × D) × Nat × Int) : D × Int := if R.2.2 ≠ 0 then (zd, R.2.2) else match R.1 with
 | [p] => (p.2, 0)
 | _ => (zd, 5)
def one (s : List UInt8) : D × Int := oneR (read s)
def OnePost (R : D × Int) (w : World) (e : Ending) (w' : World) : Prop :=
 ∃ (vm vl vt : Value), e = .returned (.tuple #[.agg #[.int .i64 R.1.k, .int .i64 R.1.n, .string R.1.s, vm, vl, vt], .int .i64 R.2]) ∧ Rep (fun k => w.heap.size ≤ k) w' R.1 vm vl vt ∧ Below w.heap.size w w'
theorem OnePost.zero {R : D × Int} {w w2 : World} {c : Int} (h : R = (zd, c)) (hb : Below w.heap.size w w2) :
  OnePost R w (.returned (.tuple #[.agg #[.int .i64 0, .int .i64 0, .string ⟨#[]⟩, .slice none 0 0, .slice none 0 0, .slice none 0 0], .int .i64 c])) (set6 w2 w.heap.size (.int .i64 0) (.int .i64 0) (.string ⟨#[]⟩) (.slice none 0 0) (.slice none 0 0) (.slice none 0 0)) := by
 subst h
 exact ⟨_, _, _, rfl, rep_zero _ _, hb.trans ((set6_keep w2 w.heap.size _ _ _ _ _ _).to_below (fun k e => by omega) hb.size)⟩
end Rd
set_option maxRecDepth 100000 in
set_option maxHeartbeats 16000000 in
theorem readOne_any (s : ByteArray) (w : World) (hs : s.size ≤ 9223372036854775807) :
  Calls Try.prog 10 #[.string s] w (Rd.OnePost (Rd.one s.data.toList) w) := by
 obtain ⟨w1, hw1⟩ : ∃ w1, w.alloc (.cells #[.int .i64 0, .int .i64 0, .string ⟨#[]⟩, .slice none 0 0, .slice none 0 0, .slice none 0 0] 25) = w1 := ⟨_, rfl⟩
 have hrd := readRead_any s w1 hs
 obtain ⟨hb1, hs1⟩ := new_below hw1
 have hR1 := Hp.new hw1
 unfold Rd.one
 obtain ⟨RR, hRR⟩ : ∃ RR, Rd.read s.data.toList = RR := ⟨_, rfl⟩
 rw [hRR] at hrd ⊢
 clear hRR
 obtain ⟨L, p, c⟩ := RR
 obtain ⟨R, hR⟩ : ∃ R, w.heap.size = R := ⟨_, rfl⟩
 rw [hR] at hR1 hs1
 have HN : Hid (w.heap.size = R ∧ w1.heap.size = R + 1) := ⟨hR, hs1⟩
 have HB1 := Lib.hid hb1
 have HR1 := Lib.hid hR1
 clear hb1 hs1 hR1
 go_enter Try.func10, Try.ntmps10
 go_wp2_with fail
 refine hrd.mono ?_
 rintro e w2 ⟨a, cp, fs, rfl, hrow, hmap, hb2⟩
 simp only at hmap
 have hR2 := HR1.out.below hb2
 have hbw : Below w.heap.size w w2 := HB1.out.trans (hb2.mono HB1.out.size)
 have r0 := hR2.cell 0 rfl
 have r1 := hR2.cell 1 rfl
 have r2 := hR2.cell 2 rfl
 have r3 := hR2.cell 3 rfl
 have r4 := hR2.cell 4 rfl
 have r5 := hR2.cell 5 rfl
 have k0 := hR2.frz 0
 have k1 := hR2.frz 1
 have k2 := hR2.frz 2
 have k3 := hR2.frz 3
 have k4 := hR2.frz 4
 have k5 := hR2.frz 5
 have HROW := Lib.hid hrow
 have HMAP := Lib.hid hmap
 have HBW := Lib.hid hbw
 clear hrd hrow hmap hb2 hR2 hbw hw1
 by_cases hc : c = 0
 case neg =>
  have hc1 : (c != 0) = true := by simpa using hc
  have HE : Hid (Rd.OnePost (Rd.oneR (L, p, c)) w (.returned (.tuple #[.agg #[.int .i64 0, .int .i64 0, .string ⟨#[]⟩, .slice none 0 0, .slice none 0 0, .slice none 0 0], .int .i64 c])) (set6 w2 R (.int .i64 0) (.int .i64 0) (.string ⟨#[]⟩) (.slice none 0 0) (.slice none 0 0) (.slice none 0 0))) := by
   have := Rd.OnePost.zero (R := Rd.oneR (L, p, c)) (c := c) (by unfold Rd.oneR; rw [if_pos hc]) HBW.out
   rw [HN.out.1] at this
   exact this
  clear hc
  go_wp2
  refine bodyPost_ret (v := .tuple #[.agg #[.int .i64 0, .int .i64 0, .string ⟨#[]⟩, .slice none 0 0, .slice none 0 0, .slice none 0 0], .int .i64 c]) (by simp [results, Try.results10, go_sem, *]) rfl ?_
  exact HE.out
 case pos =>
  subst hc
  have hc1 : ((0 : Int) != 0) = false := rfl
  obtain ⟨n, hn⟩ : ∃ n, L.length = n := ⟨_, rfl⟩
  rw [hn]
  by_cases h1 : n = 1
  case neg =>
   have hn1 : ((n : Int) != 1) = true := by simp; omega
   have HE : Hid (Rd.OnePost (Rd.oneR (L, p, 0)) w (.returned (.tuple #[.agg #[.int .i64 0, .int .i64 0, .string ⟨#[]⟩, .slice none 0 0, .slice none 0 0, .slice none 0 0], .int .i64 5])) (set6 w2 R (.int .i64 0) (.int .i64 0) (.string ⟨#[]⟩) (.slice none 0 0) (.slice none 0 0) (.slice none 0 0))) := by
    have := Rd.OnePost.zero (R := Rd.oneR (L, p, 0)) (c := 5) (by
     unfold Rd.oneR
     rw [if_neg (by simp)]
     cases L with
     | nil => rfl
     | cons x L =>
      cases L with
      | nil => exact absurd hn.symm h1
      | cons y L => rfl) HBW.out
    rw [HN.out.1] at this
    exact this
   clear h1 hn
   go_wp2
   refine bodyPost_ret (v := .tuple #[.agg #[.int .i64 0, .int .i64 0, .string ⟨#[]⟩, .slice none 0 0, .slice none 0 0, .slice none 0 0], .int .i64 5]) (by simp [results, Try.results10, go_sem, *]) rfl ?_
   exact HE.out
  case pos =>
   subst h1
   have hn1 : ((1 : Int) != 1) = false := rfl
   obtain ⟨⟨q1, y, vm, vl, vt⟩, rfl⟩ : ∃ q, fs = [q] := by
    have h2 : fs.length = 1 := by have := congrArg List.length HMAP.out; rw [List.length_map] at this; omega
    exact List.length_eq_one_iff.1 h2
   obtain rfl : L = [(q1, y)] := HMAP.out.symm
   have hrow := HROW.out
   obtain ⟨b1, m1, p1, b2, m2, p2, b3, m3, p3, e1, e2, e3⟩ := (hrow.rep _ (List.mem_singleton_self _)).forms
   simp only at e1 e2 e3
   subst e1 e2 e3
   obtain ⟨g, hg⟩ : ∃ g, a = some ⟨g, 0, none⟩ := by
    rcases hrow.row.2 with ⟨_, h0⟩ | ⟨g, cap, cur, h3, _⟩
    ·exact absurd h0 (by simp)
    ·cases h3; exact ⟨g, rfl⟩
   subst hg
   have hc := fun j u (hu : (Rd.flatF [(q1, Dt.P.mk y (.slice b1 m1 p1) (.slice b2 m2 p2) (.slice b3 m3 p3))])[j]? = some u) => hrow.row.cells (g := g) rfl j u hu
   have x1 := hc 1 _ rfl
   have x2 := hc 2 _ rfl
   have x3 := hc 3 _ rfl
   have x4 := hc 4 _ rfl
   have x5 := hc 5 _ rfl
   have x6 := hc 6 _ rfl
   rw [Addr.add_mid, Nat.zero_add] at x1 x2 x3 x4 x5 x6
   have HE : Hid (Rd.OnePost (Rd.oneR ([(q1, y)], p, 0)) w (.returned (.tuple #[.agg #[.int .i64 y.k, .int .i64 y.n, .string y.s, .slice b1 m1 p1, .slice b2 m2 p2, .slice b3 m3 p3], .int .i64 0])) (set6 w2 R (.int .i64 y.k) (.int .i64 y.n) (.string y.s) (.slice b1 m1 p1) (.slice b2 m2 p2) (.slice b3 m3 p3))) := by
    have hk := set6_keep w2 R (.int .i64 y.k) (.int .i64 y.n) (.string y.s) (.slice b1 m1 p1) (.slice b2 m2 p2) (.slice b3 m3 p3)
    refine ⟨_, _, _, rfl, ?_, HBW.out.trans (hk.to_below (fun k e => by have := HN.out.1; omega) HBW.out.size)⟩
    refine Dt.Rep.mono (fun b hb _ => ?_) y (Dt.Rep.keep hk (fun b hb _ e => ?_) y (hrow.rep _ (List.mem_singleton_self _)))
    ·have := HN.out; omega
    ·have := HN.out; omega
   clear hc hrow hn HROW HMAP
   go_wp2
   refine bodyPost_ret (v := .tuple #[.agg #[.int .i64 y.k, .int .i64 y.n, .string y.s, .slice b1 m1 p1, .slice b2 m2 p2, .slice b3 m3 p3], .int .i64 0]) (by simp [results, Try.results10, go_sem, *]) rfl ?_
   exact HE.out
end Go.Proofs.Ytcopdfihaheplaa
namespace Go.Proofs.Ytcopdfihaheplaa
namespace Cd
structure Ins where
 o : Int
 a : Int
 b : Int
deriving DecidableEq
structure Op where
 a : Nat
 needs : Int
 leaves : Int
 pa : Bool
 pb : Bool
 en : Bool
def opT (n : Int) : Option Op :=
 if n = 1 then some ⟨1, 0, 1, false, false, false⟩
 else if n = 2 then some ⟨2, 0, 1, false, false, false⟩
 else if n = 3 then some ⟨3, 0, 1, false, false, false⟩
 else if n = 4 then some ⟨4, 0, 1, false, false, false⟩
 else if n = 5 then some ⟨2, 0, 0, false, false, false⟩
 else if n = 6 then some ⟨0, 1, 1, false, false, false⟩
 else if n = 7 then some ⟨0, 2, 1, false, false, false⟩
 else if n = 8 then some ⟨4, 1, 1, false, false, false⟩
 else if n = 9 then some ⟨4, 1, 1, false, false, false⟩
 else if n = 10 then some ⟨5, 0, 0, false, false, false⟩
 else if n = 11 then some ⟨5, 1, 0, false, false, false⟩
 else if n = 12 then some ⟨6, 0, 1, false, true, false⟩
 else if n = 13 then some ⟨7, 1, 1, true, false, false⟩
 else if n = 14 then some ⟨7, 1, 0, true, false, true⟩
 else if n = 15 then some ⟨0, 1, 0, false, false, true⟩
 else if n = 16 then some ⟨0, 1, 0, false, false, false⟩
 else none
def op (n : Int) : Op := (opT n).getD ⟨0, 0, 0, false, false, false⟩
def need (x : Ins) : Int := (op x.o).needs + (if (op x.o).pa then x.a else 0) + (if (op x.o).pb then x.b else 0)
def g (ah : List Int) (j : Nat) : Int := ah.getD j (-1)
def Ext (ah ah' : List Int) : Prop := ah'.length = ah.length ∧ ∀ i, 0 ≤ g ah i → g ah' i = g ah i
theorem Ext.refl (ah : List Int) : Ext ah ah := ⟨rfl, fun _ _ => rfl⟩
theorem Ext.trans {a b c : List Int} (h : Ext a b) (h' : Ext b c) : Ext a c := ⟨h'.1.trans h.1, fun i hi => by
 have h1 := h.2 i hi
 rw [← h1]
 exact h'.2 i (by rw [h1]; exact hi)⟩
structure Fine (fin : List Int) (M : Int) (x : Ins) (j : Nat) : Prop where
 nd : need x ≤ g fin j
 mx : g fin j ≤ M
 ends : (op x.o).en = true → g fin j = need x
 next : (op x.o).en = false → g fin j - need x + (op x.o).leaves ≤ M ∧ ((op x.o).a = 5 → x.a.toNat < fin.length ∧ g fin x.a.toNat = g fin j - need x + (op x.o).leaves) ∧ (x.o ≠ 10 → j + 1 < fin.length ∧ g fin (j + 1) = g fin j - need x + (op x.o).leaves)
def start (n : Nat) : List Int := (List.replicate n (-1)).set 0 0
end Cd
end Go.Proofs.Ytcopdfihaheplaa
namespace Go.Proofs.Ytcopdfihaheplaa
open Go.RowKit
attribute [local go_sem] Oper.semAt_some
namespace Cd
end Cd
end Go.Proofs.Ytcopdfihaheplaa
namespace Go.Proofs.Ytcopdfihaheplaa
open Go.RowKit
namespace Cd
structure Ah (w : World) (base Bl Ba g c : Nat) (a : Option Addr) (n cl : Nat) (ah : List Int) : Prop where
 cl : w.cell? ⟨Bl, 0, none⟩ = some (.slice a n cl)
 ca : w.cell? ⟨Ba, 0, none⟩ = some (.slice (some ⟨g, 0, none⟩) n c)
 row : w.ownsRow base 3 1 (.slice (some ⟨g, 0, none⟩) n c) n (ah.map (Value.int .i64))
 ne : g ≠ Ba
 nl : g ≠ Bl
 len : ah.length = n
theorem Ah.at {w : World} {base Bl Ba g c : Nat} {a : Option Addr} {n cl : Nat} {ah : List Int} (h : Ah w base Bl Ba g c a n cl ah) (j : Nat) (hj : j < n) : w.cell? ⟨g, j, none⟩ = some (.int .i64 (Cd.g ah j)) ∧ w.frozen? ⟨g, j, none⟩ = false := by
 rcases h.row.2 with ⟨e, h0⟩ | ⟨g', cap, cur, e, e2, e3, e4, e5, e6, e7⟩
 ·cases e
 ·have eg : g' = g := by cases e; rfl
  subst eg
  have hv : (ah.map (Value.int .i64))[j]? = some (.int .i64 (Cd.g ah j)) := by
   rw [List.getElem?_map, List.getElem?_eq_getElem (by rw [h.len]; exact hj)]
   unfold Cd.g
   rw [List.getD_eq_getElem?_getD, List.getElem?_eq_getElem (by rw [h.len]; exact hj)]
   rfl
  have := h.row.cells (g := g') rfl j _ hv
  have e : (⟨g', 0, none⟩ : Addr).add j = ⟨g', j, none⟩ := by
   unfold Addr.add
   split
   ·rename_i h0; rw [h0]
   ·rw [Nat.zero_add]
  rw [e] at this
  refine ⟨this, ?_⟩
  unfold World.frozen?
  rw [e3]
  simp
theorem Ah.set {w : World} {base Bl Ba g c : Nat} {a : Option Addr} {n cl : Nat} {ah : List Int} (h : Ah w base Bl Ba g c a n cl ah) (j : Nat) (hj : j < n) (v : Int) : Ah (w.setCell ⟨g, j, none⟩ (.int .i64 v)) base Bl Ba g c a n cl (ah.set j v) := by
 have hn : ∀ {B : Nat}, g ≠ B → (w.setCell ⟨g, j, none⟩ (.int .i64 v)).cell? ⟨B, 0, none⟩ = w.cell? ⟨B, 0, none⟩ := fun hB => World.cell?_setCell_other _ _ _ _ (by intro e; cases e; exact hB rfl)
 refine ⟨(hn h.nl).trans h.cl, (hn h.ne).trans h.ca, ?_, h.ne, h.nl, by rw [List.length_set]; exact h.len⟩
 have hl : j < ah.length := by rw [h.len]; exact hj
 have hs : ah.map (Value.int .i64) = (ah.take j).map (Value.int .i64) ++ (.int .i64 ah[j]) :: (ah.drop (j + 1)).map (Value.int .i64) := by
  rw [← List.map_cons, ← List.map_append, ← List.drop_eq_getElem_cons hl, List.take_append_drop]
 have hr := h.row
 rw [hs] at hr
 have := Pt.own_set (v := .int .i64 v) hr
 rw [List.length_map, List.length_take, Nat.min_eq_left (by omega)] at this
 rw [List.set_eq_take_append_cons_drop, if_pos hl, List.map_append, List.map_cons]
 exact this
theorem Ah.keep {S : Nat → Prop} {w w' : World} {base Bl Ba g c : Nat} {a : Option Addr} {n cl : Nat} {ah : List Int} (h : Ah w base Bl Ba g c a n cl ah) (hk : Keep S w w') (h1 : ¬ S Bl) (h2 : ¬ S Ba) (h3 : ¬ S g) : Ah w' base Bl Ba g c a n cl ah := by
 refine ⟨(hk.cell 0 (block_lt_of_cell h.cl) h1).trans h.cl, (hk.cell 0 (block_lt_of_cell h.ca) h2).trans h.ca, ?_, h.ne, h.nl, h.len⟩
 obtain ⟨h0, h9⟩ := h.row
 refine ⟨h0, ?_⟩
 rcases h9 with h9 | ⟨g', cap, cur, e, e2, e3, e4⟩
 ·exact .inl h9
 ·have eg : g' = g := by cases e; rfl
  subst eg
  exact .inr ⟨g', cap, cur, e, e2, (hk.block g' (Array.getElem?_eq_some_iff.1 e3).1 h3).trans e3, e4⟩
theorem Ah.below {w w' : World} {base Bl Ba g c : Nat} {a : Option Addr} {n cl : Nat} {ah : List Int} (h : Ah w base Bl Ba g c a n cl ah) (hb : Below w.heap.size w w') : Ah w' base Bl Ba g c a n cl ah :=
 h.keep (S := fun _ => False) ((Keep.refl _ w).below hb) id id id
end Cd
end Go.Proofs.Ytcopdfihaheplaa
namespace Go.Proofs.Ytcopdfihaheplaa
open Go.RowKit
namespace Cd
open Dt
structure Code where
 params : Int
 rest : Int
 caps : Int
 max : Int
 ins : List Ins
structure Prog where
 codes : List Code
 consts : List D
 names : List ByteArray
def InsRow (F : Nat → Prop) (w : World) (v : Value) (l : List Ins) : Prop :=
 ∃ (a : Option Addr) (c : Nat), v = .slice a l.length c ∧ l.length ≤ c ∧ (l ≠ [] → ∃ b o, a = some ⟨b, o, none⟩ ∧ F b ∧ b < w.heap.size ∧ ∀ j, (h : j < l.length) → w.cell? ⟨b, o + j * 3, none⟩ = some (.int .i64 l[j].o) ∧ w.cell? ⟨b, o + j * 3 + 1, none⟩ = some (.int .i64 l[j].a) ∧ w.cell? ⟨b, o + j * 3 + 2, none⟩ = some (.int .i64 l[j].b))
def CodeAt (F : Nat → Prop) (w : World) (b o : Nat) (c : Code) : Prop :=
 w.cell? ⟨b, o, none⟩ = some (.int .i64 c.params) ∧ w.cell? ⟨b, o + 1, none⟩ = some (.int .i64 c.rest) ∧ w.cell? ⟨b, o + 2, none⟩ = some (.int .i64 c.caps) ∧ w.cell? ⟨b, o + 3, none⟩ = some (.int .i64 c.max) ∧ ∃ v, w.cell? ⟨b, o + 4, none⟩ = some v ∧ InsRow F w v c.ins
def CodeRow (F : Nat → Prop) (w : World) (v : Value) (l : List Code) : Prop :=
 ∃ (a : Option Addr) (c : Nat), v = .slice a l.length c ∧ l.length ≤ c ∧ (l ≠ [] → ∃ b o, a = some ⟨b, o, none⟩ ∧ F b ∧ b < w.heap.size ∧ ∀ j, (h : j < l.length) → CodeAt F w b (o + j * 5) l[j])
def NameRow (F : Nat → Prop) (w : World) (v : Value) (l : List ByteArray) : Prop :=
 ∃ (a : Option Addr) (c : Nat), v = .slice a l.length c ∧ l.length ≤ c ∧ (l ≠ [] → ∃ b o, a = some ⟨b, o, none⟩ ∧ F b ∧ b < w.heap.size ∧ ∀ j, (h : j < l.length) → w.cell? ⟨b, o + j, none⟩ = some (.string l[j]))
structure PRep (F : Nat → Prop) (w : World) (p : Prog) (vc vk vn : Value) : Prop where
 codes : CodeRow F w vc p.codes
 consts : Row F w vk p.consts
 names : NameRow F w vn p.names
theorem InsRow.keep {F S : Nat → Prop} {w w' : World} {v : Value} {l : List Ins} (h : InsRow F w v l) (hk : Keep S w w') (hS : ∀ b, F b → b < w.heap.size → ¬ S b) : InsRow F w' v l := by
 obtain ⟨a, c, h1, h2, h3⟩ := h
 refine ⟨a, c, h1, h2, fun hn => ?_⟩
 obtain ⟨b, o, h4, h5, h6, h7⟩ := h3 hn
 exact ⟨b, o, h4, h5, Nat.lt_of_lt_of_le h6 hk.size, fun j hj => ⟨(hk.cell _ h6 (hS b h5 h6)).trans (h7 j hj).1, (hk.cell _ h6 (hS b h5 h6)).trans (h7 j hj).2.1, (hk.cell _ h6 (hS b h5 h6)).trans (h7 j hj).2.2⟩⟩
theorem CodeAt.keep {F S : Nat → Prop} {w w' : World} {b o : Nat} {c : Code} (h : CodeAt F w b o c) (hk : Keep S w w') (hS : ∀ b, F b → b < w.heap.size → ¬ S b) (hb : b < w.heap.size) (hF : F b) : CodeAt F w' b o c := by
 obtain ⟨h0, h1, h2, h3, v, h4, h5⟩ := h
 have hn := hS b hF hb
 exact ⟨(hk.cell _ hb hn).trans h0, (hk.cell _ hb hn).trans h1, (hk.cell _ hb hn).trans h2, (hk.cell _ hb hn).trans h3, v, (hk.cell _ hb hn).trans h4, h5.keep hk hS⟩
theorem CodeRow.keep {F S : Nat → Prop} {w w' : World} {v : Value} {l : List Code} (h : CodeRow F w v l) (hk : Keep S w w') (hS : ∀ b, F b → b < w.heap.size → ¬ S b) : CodeRow F w' v l := by
 obtain ⟨a, c, h1, h2, h3⟩ := h
 refine ⟨a, c, h1, h2, fun hn => ?_⟩
 obtain ⟨b, o, h4, h5, h6, h7⟩ := h3 hn
 exact ⟨b, o, h4, h5, Nat.lt_of_lt_of_le h6 hk.size, fun j hj => (h7 j hj).keep hk hS h6 h5⟩
theorem NameRow.keep {F S : Nat → Prop} {w w' : World} {v : Value} {l : List ByteArray} (h : NameRow F w v l) (hk : Keep S w w') (hS : ∀ b, F b → b < w.heap.size → ¬ S b) : NameRow F w' v l := by
 obtain ⟨a, c, h1, h2, h3⟩ := h
 refine ⟨a, c, h1, h2, fun hn => ?_⟩
 obtain ⟨b, o, h4, h5, h6, h7⟩ := h3 hn
 exact ⟨b, o, h4, h5, Nat.lt_of_lt_of_le h6 hk.size, fun j hj => (hk.cell _ h6 (hS b h5 h6)).trans (h7 j hj)⟩
theorem PRep.keep {F S : Nat → Prop} {w w' : World} {p : Prog} {vc vk vn : Value} (h : PRep F w p vc vk vn) (hk : Keep S w w') (hS : ∀ b, F b → b < w.heap.size → ¬ S b) : PRep F w' p vc vk vn :=
 ⟨h.codes.keep hk hS, h.consts.keep hk hS, h.names.keep hk hS⟩
theorem PRep.below {F : Nat → Prop} {w w' : World} {p : Prog} {vc vk vn : Value} (h : PRep F w p vc vk vn) (hb : Below w.heap.size w w') : PRep F w' p vc vk vn :=
 h.keep (S := fun _ => False) ((Keep.refl _ w).below hb) (fun _ _ _ h => h)
theorem CodeRow.below {F : Nat → Prop} {w w' : World} {v : Value} {l : List Code} (h : CodeRow F w v l) (hb : Below w.heap.size w w') : CodeRow F w' v l :=
 h.keep (S := fun _ => False) ((Keep.refl _ w).below hb) (fun _ _ _ h => h)
theorem InsRow.below {F : Nat → Prop} {w w' : World} {v : Value} {l : List Ins} (h : InsRow F w v l) (hb : Below w.heap.size w w') : InsRow F w' v l :=
 h.keep (S := fun _ => False) ((Keep.refl _ w).below hb) (fun _ _ _ h => h)
theorem NameRow.below {F : Nat → Prop} {w w' : World} {v : Value} {l : List ByteArray} (h : NameRow F w v l) (hb : Below w.heap.size w w') : NameRow F w' v l :=
 h.keep (S := fun _ => False) ((Keep.refl _ w).below hb) (fun _ _ _ h => h)
theorem PRep.forms {F : Nat → Prop} {w : World} {p : Prog} {vc vk vn : Value} (h : PRep F w p vc vk vn) : ∃ a1 c1 a2 c2 a3 c3, vc = .slice a1 p.codes.length c1 ∧ vk = .slice a2 p.consts.length c2 ∧ vn = .slice a3 p.names.length c3 := by
 obtain ⟨⟨a1, c1, h1, _⟩, ⟨a2, c2, h2, _⟩, ⟨a3, c3, h3, _⟩⟩ := h
 exact ⟨a1, c1, a2, c2, a3, c3, h1, h2, h3⟩
end Cd
end Go.Proofs.Ytcopdfihaheplaa
namespace Go.Proofs.Ytcopdfihaheplaa
open Go.Joins Go.ChangeShapes Go.WideShapes Go.RowKit Go.Deep
namespace Cd
open Dt
section
variable {H : Type} {enc : TypeId × Value → H} {P : Program} {w : World} {base : Nat} {spare : Nat → Bool} {held : Bool}
end
end Cd
end Go.Proofs.Ytcopdfihaheplaa
namespace Go.Proofs.Ytcopdfihaheplaa
open Go.RowKit
attribute [local go_sem] Oper.semAt_some
namespace Cd
open Dt
end Cd
end Go.Proofs.Ytcopdfihaheplaa
namespace Go.Proofs.Ytcopdfihaheplaa
namespace Cd
end Cd
end Go.Proofs.Ytcopdfihaheplaa
namespace Go.Proofs.Ytcopdfihaheplaa
open Go.RowKit
namespace Cd
open Dt
end Cd
end Go.Proofs.Ytcopdfihaheplaa
namespace Go.Proofs.Ytcopdfihaheplaa
open Go.RowKit
attribute [local go_sem] Oper.semAt_some
namespace Cd
structure PutI (w0 : World) (v0 : Value) (base : Nat) (w : World) (v : Value) (l : List UInt8) : Prop where
 row : w.ownsRow base 5 1 v l.length (Lib.byteCells l)
 kp : Keep (fun k => v0.ownBlock = some k) w0 w
 ow : v.ownBlock = v0.ownBlock ∨ ∃ k, v.ownBlock = some k ∧ w0.heap.size ≤ k
theorem PutI.below {w0 w w' : World} {v0 v : Value} {base : Nat} {l : List UInt8} (h : PutI w0 v0 base w v l) (hb : Below w.heap.size w w') : PutI w0 v0 base w' v l :=
 ⟨Keep.own (S := fun _ => False) h.row ((Keep.refl _ w).below hb) (fun _ h => h.elim), h.kp.below hb, h.ow⟩
end Cd
set_option maxRecDepth 100000 in
theorem Cd.infoB : (Try.prog.info? 5).map (fun i => (i.zero, i.size, i.bytes)) = some (some (.int .u8 0), 1, 1) := by kernel_rfl
end Go.Proofs.Ytcopdfihaheplaa
namespace Go.Proofs.Ytcopdfihaheplaa
open Go.RowKit Go.Sort
namespace Lx
open Tx
end Lx
end Go.Proofs.Ytcopdfihaheplaa
namespace Go.Proofs.Ytcopdfihaheplaa
open Go.RowKit Go.Sort
namespace Lx
end Lx
namespace Rd
open Dt Lx
end Rd
end Go.Proofs.Ytcopdfihaheplaa
namespace Go.Proofs.Ytcopdfihaheplaa
open Go.RowKit Go.Lib
namespace Ap
section
variable {P : Program} {w : World}
theorem strRun (base : Nat) (t u ty e : TypeId) (i : TypeInfo) (ht : P.underlying t = some (.slice e)) (hu : P.underlying u = some .string) (hi : P.info? e = some i) (hz : i.zero = some (.int .u8 0))
  (hsize : i.size = 1) (hby : i.bytes = 1)
  (v : Value) (n : Nat) (xs : List Value) (hown : w.ownsRow base e 1 v n xs) (s : ByteArray)
  (h63 : n + s.size ≤ maxLen) (hbytes : n + s.size ≤ 140737488355328) (hbase : base ≤ w.heap.size) :
  ∃ v' w', (Builtin.append_ #[t, u] ty #[v, .string s]).run P w = .ok v' w' ∧ w'.ownsRow base e 1 v' (n + s.size) (xs ++ strCells s) ∧ w.grownBy w' v.ownBlock ∧ (v'.ownBlock = v.ownBlock ∨ v'.ownBlock = some w.heap.size) := by
 obtain ⟨v', w', hr, h2, h3, h4⟩ := run_append_own_string (P := P) w base t u ty e i ht hu hi hz hsize hby v n xs hown s h63 hbytes hbase
 refine ⟨v', w', hr, h2, h3, ?_⟩
 have hsmall : n + s.size ≤ 9223372036854775807 := by simp only [maxLen] at h63; omega
 have hxl : xs.length = n := by simpa using hown.1
 rcases hown.2 with ⟨rfl, rfl⟩ | ⟨g, cap, cur, rfl, hbg, hg, hnc, hcm, hcs, htake⟩
 ·by_cases hm : s.size = 0
  ·rw [h4.2 ⟨rfl, hm⟩]; exact .inl rfl
  ·have hr2 := run_append_nil_string (P := P) w t u ty e i (.int .u8 0) ht hu hi hz s (by omega) (by omega) (by rw [hby]; omega)
   rw [hr] at hr2
   cases hr2
   exact .inr rfl
 ·by_cases hroom : n + s.size ≤ cap
  ·have hcs' : cur.size = cap := by simpa using hcs
   have hr2 := run_append_room_string (P := P) w t u ty e i ht hu hi hsize g n cap cur hg s hroom (by omega)
   rw [hr] at hr2
   cases hr2
   exact .inl rfl
  ·have holds : ∀ j u, xs[j]? = some u → w.cell? ((⟨g, 0, none⟩ : Addr).add j) = some u := hown.cells (g := g) rfl
   have hr2 := run_append_grow_string (P := P) w t u ty e i (.int .u8 0) ht hu hi hz ⟨g, 0, none⟩ n cap xs (by rw [hsize]; simpa using hxl) holds s (by omega) (by omega) (by rw [hby]; exact growslice_fits (by omega) (by omega))
   rw [hr] at hr2
   cases hr2
   exact .inr rfl
theorem strWp {o : Oper} {a : Act} {K : Act → World → Prop} {Q : Exit → Act → World → Prop} (sl x : Operand) (t u : TypeId)
  (ho : o.op = .call { callee := .builtin .append, args := #[sl, x], argTypes := #[t, u] })
  (base : Nat) (e : TypeId) (i : TypeInfo) (ht : P.underlying t = some (.slice e)) (hu : P.underlying u = some .string) (hi : P.info? e = some i) (hz : i.zero = some (.int .u8 0))
  (hsize : i.size = 1) (hby : i.bytes = 1)
  (v : Value) (n : Nat) (xs : List Value) (hs : a.eval sl = v) (hown : w.ownsRow base e 1 v n xs) (s : ByteArray) (hx : a.eval x = .string s)
  (h63 : n + s.size ≤ maxLen) (hbytes : n + s.size ≤ 140737488355328) (hbase : base ≤ w.heap.size)
  (h : ∀ v' w', w'.ownsRow base e 1 v' (n + s.size) (xs ++ strCells s) → w.grownBy w' v.ownBlock → (v'.ownBlock = v.ownBlock ∨ v'.ownBlock = some w.heap.size) → K (a.put o.dst v') w') : o.wp P a w K Q := by
 obtain ⟨v', w', hr, h2, h3, h4⟩ := strRun (P := P) base t u o.type e i ht hu hi hz hsize hby v n xs hown s h63 hbytes hbase
 unfold Oper.wp execOp
 simp only [ho, resolve, invoke, builtin, Sem.run_bind, Sem.run_pure, Result.andThen_ok, List.map_toArray, List.map_cons, List.map_nil, hs, hx, hr]
 exact h v' w' h2 h3 h4
theorem strList {ops : Array Oper} {rest : List Oper} {o : Oper} {a : Act} {Q : Exit → Act → World → Prop} (hgd : o.guard = none) (sl x : Operand) (t u : TypeId)
  (ho : o.op = .call { callee := .builtin .append, args := #[sl, x], argTypes := #[t, u] })
  (base : Nat) (e : TypeId) (i : TypeInfo) (ht : P.underlying t = some (.slice e)) (hu : P.underlying u = some .string) (hi : P.info? e = some i) (hz : i.zero = some (.int .u8 0))
  (hsize : i.size = 1) (hby : i.bytes = 1)
  (v : Value) (n : Nat) (xs : List Value) (hs : a.eval sl = v) (hown : w.ownsRow base e 1 v n xs) (s : ByteArray) (hx : a.eval x = .string s)
  (h63 : n + s.size ≤ maxLen) (hbytes : n + s.size ≤ 140737488355328) (hbase : base ≤ w.heap.size)
  (h : ∀ v' w', w'.ownsRow base e 1 v' (n + s.size) (xs ++ strCells s) → w.grownBy w' v.ownBlock → (v'.ownBlock = v.ownBlock ∨ v'.ownBlock = some w.heap.size) → wpList P ops Q rest (a.put o.dst v') w') : wpList P ops Q (o :: rest) a w :=
 wpList_plain hgd fun _ hK => strWp sl x t u ho base e i ht hu hi hz hsize hby v n xs hs hown s hx h63 hbytes hbase fun v' w' h2 h3 h4 => hK _ _ (h v' w' h2 h3 h4)
end
end Ap
end Go.Proofs.Ytcopdfihaheplaa
namespace Go.Proofs.Ytcopdfihaheplaa
open Go.RowKit
attribute [local go_sem] Oper.semAt_some
namespace Rd
structure Pw (base P : Nat) (w0 : World) (v0 : Value) (w : World) (acc : List UInt8) (v : Value) : Prop where
 hp : Hp w P #[v] 55
 row : w.ownsRow base 5 1 v acc.length (Lib.byteCells acc)
 kp : Keep (fun k => k = P ∨ v0.ownBlock = some k) w0 w
 ow : v.ownBlock = v0.ownBlock ∨ ∃ k, v.ownBlock = some k ∧ w0.heap.size ≤ k
theorem Pw.start {base P : Nat} {w : World} {acc : List UInt8} {v : Value} (hp : Hp w P #[v] 55) (hr : w.ownsRow base 5 1 v acc.length (Lib.byteCells acc)) : Pw base P w v w acc v := ⟨hp, hr, Keep.refl _ _, .inl rfl⟩
theorem Pw.again {base P : Nat} {w0 w : World} {acc : List UInt8} {v0 v : Value} (h : Pw base P w0 v0 w acc v) : Pw base P w v w acc v := ⟨h.hp, h.row, Keep.refl _ _, .inl rfl⟩
theorem Pw.below {base P : Nat} {w0 w w' : World} {acc : List UInt8} {v0 v : Value} (h : Pw base P w0 v0 w acc v) (hb : Below w.heap.size w w') : Pw base P w0 v0 w' acc v :=
 ⟨h.hp.below hb, Dt.own_keep h.row (S := fun _ => False) (keep_of_below hb) (fun _ _ => id), h.kp.below hb, h.ow⟩
theorem Pw.trans {base P : Nat} {w0 w w' : World} {acc acc' : List UInt8} {v0 v v' : Value} (h : Pw base P w0 v0 w acc v) (h2 : Pw base P w v w' acc' v') : Pw base P w0 v0 w' acc' v' := by
 refine ⟨h2.hp, h2.row, ?_, ?_⟩
 ·refine (h.kp.le (T := fun k => k = P ∨ v0.ownBlock = some k ∨ v.ownBlock = some k) (fun k e => e.elim .inl (fun e => .inr (.inl e)))).trans (h2.kp.le (fun k e => e.elim .inl (fun e => .inr (.inr e)))) |>.mono (fun k hk e => ?_)
  rcases e with e | e | e
  ·exact .inl e
  ·exact .inr e
  ·rcases h.ow with o | ⟨j, o, hj⟩
   ·exact .inr (o ▸ e)
   ·rw [o] at e; cases e; omega
 ·rcases h2.ow with o | ⟨j, o, hj⟩
  ·rcases h.ow with o2 | ⟨j, o2, hj⟩
   ·exact .inl (o.trans o2)
   ·exact .inr ⟨j, o.trans o2, hj⟩
  ·exact .inr ⟨j, o, Nat.le_trans h.kp.size hj⟩
theorem Pw.push {base P : Nat} {w w2 : World} {acc x : List UInt8} {v v' : Value} (hp : Hp w P #[v] 55) (hr : w.ownsRow base 5 1 v acc.length (Lib.byteCells acc)) (hPb : P < base) (_hb : base ≤ w.heap.size)
  (hown : w2.ownsRow base 5 1 v' (acc.length + x.length) (Lib.byteCells acc ++ Lib.byteCells x)) (hg : w.grownBy w2 v.ownBlock) (hat : v'.ownBlock = v.ownBlock ∨ v'.ownBlock = some w.heap.size) :
  Pw base P w v (w2.setCell ⟨P, 0, none⟩ v') (acc ++ x) v' ∧ Hp w2 P #[v] 55 := by
 have hk1 : Keep (fun k => v.ownBlock = some k) w w2 := Dt.Cd_keep_grown hg
 have hp2 : Hp w2 P #[v] 55 := hp.keep hk1 (fun e => by have := (hr.lt P e).1; omega)
 have hk2 := set_keep w2 P 0 v'
 refine ⟨⟨hp2.set 0 v', ?_, (hk1.le (fun k e => .inr e)).trans (hk2.le (fun k e => .inl e)), hat.elim .inl (fun e => .inr ⟨_, e, Nat.le_refl _⟩)⟩, hp2⟩
 have h3 := Dt.own_keep hown hk2 (fun k e h => by have := (hown.lt k e).1; omega)
 rw [List.length_append, Lib.byteCells_append]
 exact h3
def PutP (base P : Nat) (acc : List UInt8) (v0 : Value) (w : World) (e : Ending) (w' : World) : Prop := e = .returned (.tuple #[]) ∧ ∃ v, Pw base P w v0 w' acc v
end Rd
set_option maxRecDepth 100000 in
set_option maxHeartbeats 8000000 in
theorem pword_any (k n c : Int) (s : ByteArray) (x : List UInt8) (HT : Hid (∀ W, Calls Try.prog 52 #[.agg #[.int .i64 k, .int .i64 0, .int .i64 0, .int .i64 n, .string s]] W fun e w' => e = .returned (.tuple #[.string ⟨x.toArray⟩, .int .i64 c]) ∧ Below W.heap.size W w'))
  (base P : Nat) (acc : List UInt8) (w : World) (v0 : Value) (hP : Rd.Pw base P w v0 w acc v0) (hPb : P < base) (hb : base ≤ w.heap.size) (hl : acc.length + x.length ≤ 140737488355328) :
  Calls Try.prog 33 #[.pointer (some ⟨P, 0, none⟩), .agg #[.int .i64 k, .int .i64 0, .int .i64 0, .int .i64 n, .string s]] w (Rd.PutP base P (acc ++ x) v0 w) := by
 obtain ⟨w1, hw1⟩ : ∃ w1, w.alloc (.cells #[.int .i64 k, .int .i64 0, .int .i64 0, .int .i64 n, .string s] 47) = w1 := ⟨_, rfl⟩
 obtain ⟨hb1, hs1⟩ := new_below hw1
 have hT1 := Hp.new hw1
 have q0 := hT1.cell 0 rfl
 have q1 := hT1.cell 1 rfl
 have q2 := hT1.cell 2 rfl
 have q3 := hT1.cell 3 rfl
 have q4 := hT1.cell 4 rfl
 have hcall := HT.out w1
 obtain ⟨i0, hi, hz0, hz1, hz2⟩ := info_parts Cd.infoB
 have HI0 := Lib.hid hi
 have HZ0 := Lib.hid hz0
 have HZ1 := Lib.hid hz1
 have HZ2 := Lib.hid hz2
 have HPH := Lib.hid hP
 have HB1 := Lib.hid hb1
 clear hT1 hi hz0 hz1 hz2 hP hb1 hs1 HT
 go_enter Try.func33, Try.ntmps33
 go_wp2_with fail
 refine hcall.mono ?_
 rintro e w2 ⟨rfl, hb2⟩
 have hpw := (HPH.out.below HB1.out).below hb2
 have hp2 := hpw.hp
 have hrow2 := hpw.row
 have HPW := Lib.hid hpw
 have hbw := HB1.out.trans (hb2.mono HB1.out.size)
 have hbs2 : base ≤ w2.heap.size := by have := hbw.size; omega
 have p0 := hp2.cell 0 rfl
 have HP2 := Lib.hid hp2
 have HROW := Lib.hid hrow2
 have HBW := Lib.hid hbw
 obtain ⟨a0, c0, rfl⟩ := Dt.row_form hrow2
 have hxl : (⟨x.toArray⟩ : ByteArray).size = x.length := by show x.toArray.size = _; simp
 clear hcall hw1 q0 q1 q2 q3 q4 hb2 hp2 hbw hpw
 go_wp2_with (at_builtin; refine Ap.strList rfl _ _ 53 9 rfl base 5 i0 Try.underlying53 Try.underlying9 HI0.out HZ0.out HZ1.out HZ2.out _ _ _ rfl hrow2 ⟨x.toArray⟩ rfl (by rw [hxl]; unfold maxLen; omega) (by rw [hxl]; omega) hbs2 ?_)
 intro v' w3 hown' hgrow hat
 obtain ⟨a3, c3, rfl⟩ := Dt.row_form hown'
 obtain ⟨g1, g3⟩ := Rd.Pw.push (x := x) HP2.out HROW.out hPb hbs2 (by
  have e : Lib.strCells ⟨x.toArray⟩ = Lib.byteCells x := by rw [Lib.strCells_eq]
  rw [e] at hown'
  exact hown') hgrow hat
 have HE : Hid (Rd.PutP base P (acc ++ x) (.slice a0 acc.length c0) w (.returned (.tuple #[])) (w3.setCell ⟨P, 0, none⟩ (.slice a3 (acc.length + x.length) c3))) := ⟨rfl, _, HPW.out.trans g1⟩
 have p0' := g3.cell 0 rfl
 have k0 := g3.frz 0
 clear hown' hgrow hat g1 g3 p0 hxl hrow2 hbs2 hPb
 go_wp2
 refine bodyPost_ret (v := .tuple #[]) (by simp [results, Try.results33, go_sem, *]) rfl ?_
 exact HE.out
end Go.Proofs.Ytcopdfihaheplaa
namespace Go.Proofs.Ytcopdfihaheplaa
namespace Rd
open Dt
def shortL (k : Int) (l : List D) : Int := match l with
 | [x, _] => if k = 6 ∧ x.k = 5 then (if x.s = sgn 4 then 4 else if x.s = sgn 5 then 5 else if x.s = sgn 6 then 6 else if x.s = sgn 7 then 7 else 0) else 0
 | _ => 0
def wt (k n : Int) (s : List UInt8) : List UInt8 := if k ≤ 3 then (Tx.text (k + 8) n []).getD [] else (Tx.text (k + 8) 0 s).getD []
mutual
def txt : D → List UInt8
 | .mk k n s _ l t =>
  if shortL k l ≠ 0 then Tx.signL (shortL k l) ++ txt2 l
  else if 1 ≤ k ∧ k ≤ 5 then wt k n s.data.toList
  else Tx.signL (if k = 8 then 3 else 1) ++ txts l ++ txtt t ++ [41]
def txt2 : List D → List UInt8
 | [] => []
 | _ :: r => txt1 r
def txt1 : List D → List UInt8
 | [] => []
 | d :: _ => txt d
def txts : List D → List UInt8
 | [] => []
 | d :: r => txt d ++ txtr r
def txtr : List D → List UInt8
 | [] => []
 | d :: r => 32 :: (txt d ++ txtr r)
def txtt : List D → List UInt8
 | [] => []
 | d :: _ => 32 :: 46 :: 32 :: txt d
end
theorem txtr_take : ∀ (l : List D) (j : Nat) (h : j < l.length), txtr (l.take (j + 1)) = txtr (l.take j) ++ 32 :: txt l[j]
 | [], j, h => absurd h (by simp)
 | d :: r, 0, h => by simp [txtr]
 | d :: r, j + 1, h => by
  have := txtr_take r j (by simpa using h)
  rw [List.take_succ_cons, List.take_succ_cons, txtr, txtr, this]
  simp
theorem txts_take (l : List D) (j : Nat) (h : j < l.length) : txts (l.take (j + 1)) = txts (l.take j) ++ (if j = 0 then [] else [32]) ++ txt l[j] := by
 cases l with
 | nil => exact absurd h (by simp)
 | cons d r =>
  cases j with
  | zero => simp [txts, txtr]
  | succ j =>
   rw [List.take_succ_cons, List.take_succ_cons, txts, txts, txtr_take r j (by simpa using h)]
   simp
theorem txts_le (l : List D) (j : Nat) : (txts (l.take j)).length ≤ (txts l).length := by
 have hr : ∀ (r : List D) (j : Nat), (txtr (r.take j)).length ≤ (txtr r).length := by
  intro r
  induction r with
  | nil => intro j; simp
  | cons d r ih =>
   intro j
   cases j with
   | zero => simp [txtr]
   | succ j =>
    rw [List.take_succ_cons, txtr, txtr]
    have := ih j
    simp only [List.length_cons, List.length_append]
    omega
 cases l with
 | nil => simp
 | cons d r =>
  cases j with
  | zero => simp [txts]
  | succ j =>
   rw [List.take_succ_cons, txts, txts]
   have := hr r j
   simp only [List.length_append]
   omega
theorem short_cases (k : Int) (l : List D) : shortL k l = 0 ∨ (k = 6 ∧ 4 ≤ shortL k l ∧ shortL k l ≤ 7 ∧ ∃ x y, l = [x, y] ∧ x.k = 5 ∧ x.s = sgn (shortL k l)) := by
 unfold shortL
 split
 ·rename_i x y
  split
  ·rename_i h
   split
   ·rename_i e; exact .inr ⟨h.1, by decide, by decide, x, y, rfl, h.2, e⟩
   split
   ·rename_i e; exact .inr ⟨h.1, by decide, by decide, x, y, rfl, h.2, e⟩
   split
   ·rename_i e; exact .inr ⟨h.1, by decide, by decide, x, y, rfl, h.2, e⟩
   split
   ·rename_i e; exact .inr ⟨h.1, by decide, by decide, x, y, rfl, h.2, e⟩
   ·exact .inl rfl
  ·exact .inl rfl
 ·exact .inl rfl
theorem wt_len (k n : Int) (s : List UInt8) : (wt k n s).length ≤ 1100 := by
 have h : ∀ (o : Option (List UInt8)), (∀ x, o = some x → x.length ≤ 1100) → (o.getD []).length ≤ 1100 := fun o ho => by
  cases o with
  | none => simp
  | some x => exact ho x rfl
 unfold wt
 split
 ·exact h _ (fun x e => Tx.text_len _ _ _ _ e)
 ·exact h _ (fun x e => Tx.text_len _ _ _ _ e)
theorem sign_len (k : Int) : (Tx.signL k).length ≤ 2 := by
 unfold Tx.signL
 repeat' split
 all_goals simp
theorem txts_r (l : List D) : (txts l).length ≤ (txtr l).length := by
 cases l with
 | nil => simp [txts]
 | cons d r => rw [txts, txtr]; simp
theorem txt2_r (l : List D) : (txt2 l).length ≤ (txtr l).length := by
 cases l with
 | nil => rw [txt2]; simp
 | cons d r =>
  cases r with
  | nil => rw [txt2, txt1]; simp
  | cons e r => rw [txt2, txt1, txtr, txtr]; simp; omega
theorem txtt_r (l : List D) : (txtt l).length ≤ (txtr l).length + 2 := by
 cases l with
 | nil => simp [txtt]
 | cons d r => rw [txtt, txtr]; simp
mutual
theorem cnt : ∀ (d : D) (deep p q : Nat), chk d deep p = (0, q) → p + 1 ≤ q ∧ (txt d).length + 3 + 1110 * p ≤ 1110 * q
 | .mk k n s m l t, deep, p, q, h => by
  rw [chk] at h
  split at h
  ·cases h
  split at h
  ·cases h
  split at h
  ·split at h
   ·rename_i h1
    obtain ⟨e, q1, hq⟩ : ∃ q1, chks l (deep + 1) (p + 1) = (0, q1) ∧ chks t (deep + 1) q1 = (0, q) := ⟨(chks l (deep + 1) (p + 1)).2, by rw [← h1], h⟩
    have a1 := cnts l _ _ _ q1
    have a2 := cnts t _ _ _ hq
    have b1 := txts_r l
    have b2 := txt2_r l
    have b3 := txtt_r t
    refine ⟨by omega, ?_⟩
    rw [txt]
    split
    ·have := sign_len (shortL k l)
     simp only [List.length_append]
     omega
    split
    ·have := wt_len k n s.data.toList
     omega
    ·have := sign_len (if k = 8 then 3 else 1)
     simp only [List.length_append, List.length_cons, List.length_nil]
     omega
   ·rename_i h1
    exact absurd (by rw [h]) h1
  ·cases h
theorem cnts : ∀ (l : List D) (deep p q : Nat), chks l deep p = (0, q) → p ≤ q ∧ (txtr l).length + 1110 * p ≤ 1110 * q
 | [], deep, p, q, h => by
  rw [chks] at h
  cases h
  simp [txtr]
 | d :: r, deep, p, q, h => by
  rw [chks] at h
  split at h
  ·rename_i h1
   have a1 := cnt d deep p (chk d deep p).2 (by rw [← h1])
   have a2 := cnts r _ _ _ h
   rw [txtr]
   simp only [List.length_cons, List.length_append]
   omega
  ·rename_i h1
   exact absurd (by rw [h]) h1
end
theorem txt_len {d : D} (h : check d = 0) : (txt d).length ≤ 4546560 := by
 unfold check at h
 have h1 := cnt d 1 0 (chk d 1 0).2 (by rw [← h])
 have h2 := chk_le d 1 0 (by omega)
 omega
end Rd
end Go.Proofs.Ytcopdfihaheplaa
namespace Go.Proofs.Ytcopdfihaheplaa
open Go.RowKit
attribute [local go_sem] Oper.semAt_some
set_option maxRecDepth 100000 in
theorem signs_at (k : Nat) (hk : k < 4) (w : World) : (Instr.index 91 (.agg #[.string ⟨#[113, 117, 111, 116, 101]⟩, .string ⟨#[113, 117, 97, 115, 105, 113, 117, 111, 116, 101]⟩, .string ⟨#[117, 110, 113, 117, 111, 116, 101]⟩, .string ⟨#[117, 110, 113, 117, 111, 116, 101, 45, 115, 112, 108, 105, 99, 105, 110, 103]⟩]) (.int .i64 (k : Int))).run Try.prog w = .ok (.string (Rd.sgn (4 + (k : Int)))) w := by
 obtain rfl | rfl | rfl | rfl : k = 0 ∨ k = 1 ∨ k = 2 ∨ k = 3 := by omega
 all_goals kernel_rfl
theorem bytes_eq {a b : ByteArray} (h : a.data = b.data) : a = b := by
 cases a; cases b; cases h; rfl
namespace Rd
open Dt
theorem short_at {k : Int} {x y : D} (hk : k = 6) (hx : x.k = 5) {j : Nat} (hj : j < 4) (hb : ∀ i, i < j → x.s ≠ sgn (4 + (i : Int))) (h : x.s = sgn (4 + (j : Int))) : shortL k [x, y] = 4 + (j : Int) := by
 have e : shortL k [x, y] = (if x.s = sgn 4 then 4 else if x.s = sgn 5 then 5 else if x.s = sgn 6 then 6 else if x.s = sgn 7 then 7 else 0) := by
  unfold shortL
  simp only
  rw [if_pos ⟨hk, hx⟩]
 rw [e]
 obtain rfl | rfl | rfl | rfl : j = 0 ∨ j = 1 ∨ j = 2 ∨ j = 3 := by omega
 ·have h' : x.s = sgn 4 := h
  rw [if_pos h']; rfl
 ·have b0 : x.s ≠ sgn 4 := hb 0 (by omega)
  have h' : x.s = sgn 5 := h
  rw [if_neg b0, if_pos h']; rfl
 ·have b0 : x.s ≠ sgn 4 := hb 0 (by omega)
  have b1 : x.s ≠ sgn 5 := hb 1 (by omega)
  have h' : x.s = sgn 6 := h
  rw [if_neg b0, if_neg b1, if_pos h']; rfl
 ·have b0 : x.s ≠ sgn 4 := hb 0 (by omega)
  have b1 : x.s ≠ sgn 5 := hb 1 (by omega)
  have b2 : x.s ≠ sgn 6 := hb 2 (by omega)
  have h' : x.s = sgn 7 := h
  rw [if_neg b0, if_neg b1, if_neg b2, if_pos h']; rfl
theorem short_no {k : Int} {x y : D} (hb : ∀ i, i < 4 → x.s ≠ sgn (4 + ((i : Nat) : Int))) : shortL k [x, y] = 0 := by
 have b0 : x.s ≠ sgn 4 := hb 0 (by omega)
 have b1 : x.s ≠ sgn 5 := hb 1 (by omega)
 have b2 : x.s ≠ sgn 6 := hb 2 (by omega)
 have b3 : x.s ≠ sgn 7 := hb 3 (by omega)
 unfold shortL
 simp only
 rw [if_neg b0, if_neg b1, if_neg b2, if_neg b3]
 split <;> rfl
end Rd
set_option maxRecDepth 100000 in
set_option maxHeartbeats 8000000 in
theorem rdQuoted_any {F : Nat → Prop} (x : Dt.D) (vm vl vt : Value) (w : World) (hR : Dt.Rep F w x vm vl vt) :
  Calls Try.prog 32 #[.agg #[.int .i64 x.k, .int .i64 x.n, .string x.s, vm, vl, vt]] w fun e w' => e = .returned (.int .i64 (Rd.shortL x.k x.l)) ∧ Below w.heap.size w w' := by
 obtain ⟨w1, hw1⟩ : ∃ w1, w.alloc (.cells #[.int .i64 x.k, .int .i64 x.n, .string x.s, vm, vl, vt] 25) = w1 := ⟨_, rfl⟩
 obtain ⟨hb1, hs1⟩ := new_below hw1
 have hX1 := Hp.new hw1
 have hrow := ((Dt.rep_iff _ _ _ _ _ _).1 (hR.below hb1)).2.1
 have HFORM : Hid (∃ b1 m1 p1 b3 m3 p3, vm = .slice b1 m1 p1 ∧ vt = .slice b3 m3 p3) := by
  obtain ⟨b1, m1, p1, b2, m2, p2, b3, m3, p3, e1, -, e3⟩ := hR.forms
  exact ⟨_, _, _, _, _, _, e1, e3⟩
 obtain ⟨R, hRR⟩ : ∃ R, Rd.shortL x.k x.l = R := ⟨_, rfl⟩
 obtain ⟨L, hL⟩ : ∃ L, x.l = L := ⟨_, rfl⟩
 rw [hL] at hrow hRR
 rw [hL, hRR]
 clear hL hR hs1
 obtain ⟨al, cl, rfl, hcl, hcs⟩ := hrow
 obtain ⟨b1, m1, p1, b3, m3, p3, e1, e3⟩ : ∃ b1 m1 p1 b3 m3 p3, vm = .slice b1 m1 p1 ∧ vt = .slice b3 m3 p3 := HFORM.out
 subst e1 e3
 obtain ⟨X, hX⟩ : ∃ X, w.heap.size = X := ⟨_, rfl⟩
 rw [hX] at hX1
 have HX1 := Lib.hid hX1
 have x0 := hX1.cell 0 rfl
 have x4 := hX1.cell 4 rfl
 have HB1 := Lib.hid hb1
 have HW1 := Lib.hid hw1
 clear hX1 hb1
 by_cases h6 : x.k = 6
 case neg =>
  have h6' : (x.k == 6) = false := by simpa using h6
  have HE : Hid (R = 0) := hRR.symm.trans ((Rd.short_cases x.k L).elim id (fun h => absurd h.1 h6))
  clear hRR hcs h6
  go_enter Try.func32, Try.ntmps32
  go_wp2
  go_ret
  rw [HE.out]
  exact ⟨rfl, HB1.out⟩
 have h6' : (x.k == 6) = true := by simpa using h6
 by_cases h2 : L.length = 2
 case neg =>
  have h2' : ((L.length : Int) == 2) = false := by simp; omega
  have HE : Hid (R = 0) := hRR.symm.trans ((Rd.short_cases x.k L).elim id (fun h => by obtain ⟨y, z, e, -⟩ := h.2.2.2; rw [e] at h2; exact absurd rfl h2))
  clear hRR hcs h6 h2
  go_enter Try.func32, Try.ntmps32
  go_wp2
  go_ret
  rw [HE.out]
  exact ⟨rfl, HB1.out⟩
 obtain ⟨y, z, rfl⟩ : ∃ y z, L = [y, z] := by
  match L, h2 with
  | [y, z], _ => exact ⟨y, z, rfl⟩
 obtain ⟨g, o, rfl, -, hgl, hreps⟩ := hcs (by simp)
 obtain ⟨um, ul, ut, hsix, -⟩ := hreps.at 0 (by simp)
 rw [Nat.zero_mul, Nat.add_zero] at hsix
 have y0 := hsix.c0
 have y2 := hsix.c2
 simp only [List.getElem_cons_zero] at y0 y2
 rw [show ([y, z] : List Dt.D).length = 2 from rfl] at x4 HX1 HW1 hw1
 have HSX := Lib.hid hsix
 have HGL := Lib.hid hgl
 clear hreps hsix h2 hgl
 by_cases h5 : y.k = 5
 case neg =>
  have h5' : (y.k == 5) = false := by simpa using h5
  have HE : Hid (R = 0) := hRR.symm.trans ((Rd.short_cases x.k [y, z]).elim id (fun h => by obtain ⟨y', z', e, h7, -⟩ := h.2.2.2; cases e; exact absurd h7 h5))
  clear hRR hcs h6 h5
  go_enter Try.func32, Try.ntmps32
  go_wp2
  go_ret
  rw [HE.out]
  exact ⟨rfl, HB1.out⟩
 have h5' : (y.k == 5) = true := by simpa using h5
 have hsg := signs_any w1
 have HRR : Hid (Rd.shortL x.k [y, z] = R) := hRR
 have H56 : Hid (x.k = 6 ∧ y.k = 5) := ⟨h6, h5⟩
 clear hRR hcs h6 h5
 go_enter Try.func32, Try.ntmps32
 go_wp2_with fail
 refine hsg.mono ?_
 rintro e w2 ⟨rfl, hb2⟩
 have HBW : Hid (Below w.heap.size w w2) := HB1.out.trans (hb2.mono HB1.out.size)
 have hX2 := HX1.out.below hb2
 have x4' := hX2.cell 4 rfl
 have y2' := (HSX.out.keep (S := fun _ => False) (keep_of_below hb2) HGL.out id).c2
 simp only [List.getElem_cons_zero] at y2'
 clear hsg hb2 hX2 x0 x4 y0 y2 hw1
 go_wp2
 go_loopw [23] (fun vi wr => ∃ k : Nat, vi = .int .i64 k ∧ k ≤ 4 ∧ Hid (∀ i, i < k → y.s ≠ Rd.sgn (4 + (i : Int))) ∧ wr = w2) (fun vi _ => 4 - (intOf vi).toNat)
 case atStart => exact ⟨0, rfl, by omega, fun i hi => absurd hi (by omega), rfl⟩
 case round =>
  obtain ⟨k, rfl, hk, HNE, rfl⟩ := hrel
  by_cases hlt : k < 4
  ·have hki : (k : Int) < 4 := by omega
   have hix := signs_at k hlt
   by_cases he : y.s = Rd.sgn (4 + (k : Int))
   ·have HE : Hid (R = 4 + (k : Int)) := HRR.out.symm.trans (Rd.short_at H56.out.1 H56.out.2 hlt HNE.out he)
    rw [he] at y2'
    go_wp2
    go_ret
    rw [HE.out]
    exact ⟨rfl, HBW.out⟩
   ·have he' : (y.s.toList == (Rd.sgn (4 + (k : Int))).toList) = false := by
     rw [ByteArray.toList_eq, ByteArray.toList_eq, beq_eq_false_iff_ne]
     intro e
     exact he (bytes_eq (Array.toList_inj.1 e))
    have HN : Hid (∀ i, i < k + 1 → y.s ≠ Rd.sgn (4 + (i : Int))) := fun i hi => by
     rcases Nat.lt_succ_iff_lt_or_eq.1 hi with hi | rfl
     ·exact HNE.out i hi
     ·exact he
    clear he
    go_wp2
    go_roundw
    case rel => exact ⟨k + 1, by simp, by omega, HN, trivial⟩
    case measure => simp [intOf]; omega
  ·obtain rfl : k = 4 := by omega
   have HE : Hid (R = 0) := HRR.out.symm.trans (Rd.short_no (fun i hi => HNE.out i hi))
   go_wp2
   go_ret
   rw [HE.out]
   exact ⟨rfl, HBW.out⟩
end Go.Proofs.Ytcopdfihaheplaa
