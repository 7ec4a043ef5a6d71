/-
  Several texts of this proof in one: RdList, RdQuote, RdLeaf, RdDatum, LexAwake, LexSame, LexBare, LexApartP, LexApartQ, LexApartS, LexBlanksP, RdForm, FixForm, FixParseR, FixBackPlain, RdWf.
-/
import Derived.Test.YtcopdfihaheplaaReadB3ZM1
import Derived.Deep.RegionHeld3
import Derived.WalkSpells
import Derived.Test.YtcopdfihaheplaaLexWords
import Derived.Test.YtcopdfihaheplaaFixTextR
namespace Go.Proofs.Ytcopdfihaheplaa
open Go.RowKit
attribute [local go_sem] Oper.semAt_some
namespace Rd
open Dt Lx
def LInv (a : Nat) (R : Res) (f : Nat) (acc : List D) (ts : List PTok) (at_ er : Int) : Prop := (er = 0 ∧ at_ = 0 ∧ pl f a acc ts = R ∧ R ≠ .out ∧ (∃ q, f = q + 1) ∧ acc.length + ts.length ≤ 4096) ∨ (er ≠ 0 ∧ ∃ (b : Nat), at_ = (b : Int) ∧ R = .bad b er)
end Rd
set_option maxRecDepth 100000 in
set_option maxHeartbeats 16000000 in
theorem list_any (P tb C : Nat) (xs : List Lx.PTok) (hG : Rd.G P tb C xs) (F : Nat) (hD : ∀ g, g < F → Rd.DatumIs P tb C xs g) (t : Lx.PTok) (r : List Lx.PTok) (w : World) (hSrc : Rd.Src w tb xs) (hSt : Rd.St w P tb C xs r 0 0) (hR : Rd.pl F t.at_ [] r ≠ .out) :
  Calls Try.prog 42 #[.pointer (some ⟨P, 0, none⟩), Rd.tokV t] w (Rd.Out P tb C xs w (Rd.pl F t.at_ [] r)) := by
 unfold Rd.tokV
 obtain ⟨tk, htk⟩ : ∃ tk, t.t.k = tk := ⟨_, rfl⟩
 obtain ⟨tn, htn⟩ : ∃ tn, t.t.n = tn := ⟨_, rfl⟩
 obtain ⟨ts, hts⟩ : ∃ ts : ByteArray, ⟨t.t.s.toArray⟩ = ts := ⟨_, rfl⟩
 obtain ⟨ta, hta⟩ : ∃ ta : Nat, t.at_ = ta := ⟨_, rfl⟩
 obtain ⟨tz, hto⟩ : ∃ tz : Int, (t.to : Int) = tz := ⟨_, rfl⟩
 have HTV : Hid (Rd.tokV t = .agg #[.int .i64 tk, .int .i64 (ta : Int), .int .i64 tz, .int .i64 tn, .string ts] ∧ t.at_ = ta) := ⟨by unfold Rd.tokV; rw [htk, htn, hts, hto, hta], hta⟩
 rw [hta] at hR ⊢
 rw [htk, htn, hts, hto]
 clear htk htn hts hta hto
 obtain ⟨RR, hRR⟩ : ∃ RR, Rd.pl F ta [] r = RR := ⟨_, rfl⟩
 have hV0 : Rd.LInv ta RR F [] r 0 0 := .inl ⟨rfl, rfl, hRR, hRR ▸ hR, by
  cases F with
  | zero => exact absurd (by rw [Rd.pl]) hR
  | succ q => exact ⟨q, rfl⟩, by
   obtain ⟨_, pre, -, hpre, -⟩ := hSt
   have := hG.few
   rw [hpre] at this
   simp at this ⊢
   omega⟩
 rw [hRR]
 obtain ⟨w1, hw1⟩ : ∃ w1, w.alloc (.cells #[.int .i64 tk, .int .i64 (ta : Int), .int .i64 tz, .int .i64 tn, .string ts] 47) = w1 := ⟨_, rfl⟩
 obtain ⟨w2, hw2⟩ : ∃ w2, w1.alloc (.cells #[.int .i64 0, .int .i64 0, .string ⟨#[]⟩, .slice none 0 0, .slice none 0 0, .slice none 0 0] 25) = w2 := ⟨_, rfl⟩
 obtain ⟨w3, hw3⟩ : ∃ w3, w2.alloc (.cells #[.int .i64 6, .int .i64 0, .string ⟨#[]⟩, .slice none 0 0, .slice none 0 0, .slice none 0 0] 25) = w3 := ⟨_, rfl⟩
 obtain ⟨hb1, hs1⟩ := new_below hw1
 obtain ⟨hb2, hs2⟩ := new_below hw2
 obtain ⟨hb3, hs3⟩ := new_below hw3
 have hT3 := ((Hp.new hw1).below hb2).below hb3
 have hR3 := (Hp.new hw2).below hb3
 have hD3 := Hp.new hw3
 have hb13 := hb1.trans ((hb2.trans (hb3.mono hb2.size)).mono hb1.size)
 obtain ⟨T, hT⟩ : ∃ T, w.heap.size = T := ⟨_, rfl⟩
 obtain ⟨R, hRb⟩ : ∃ R, w1.heap.size = R := ⟨_, rfl⟩
 obtain ⟨D, hDb⟩ : ∃ D, w2.heap.size = D := ⟨_, rfl⟩
 rw [hT] at hT3 hs1
 rw [hRb] at hR3 hs1 hs2
 rw [hDb] at hD3 hs2 hs3
 have hPl := hSt.lt
 rw [hT] at hPl
 have HN : Hid (P < T ∧ R = T + 1 ∧ D = T + 2 ∧ w3.heap.size = T + 3 ∧ w.heap.size = T) := ⟨hPl, hs1, by omega, by omega, hT⟩
 have HT3 := Lib.hid hT3
 have HR3 := Lib.hid hR3
 have HD3 := Lib.hid hD3
 have HK3 : Hid (Keep (fun k => k = P) w w3) := keep_of_below hb13
 have HST3 := Lib.hid (hSt.below hb13)
 have HSRC := Lib.hid hSrc
 have HG := Lib.hid hG
 have HD := Lib.hid hD
 have HV0 := Lib.hid hV0
 have HROW0 : Hid (Dt.Rowing w3 (D + 1) (.slice none 0 0) [] ∧ ([] : List Dt.P).length = 0) := ⟨Dt.Rowing.nil _ _, rfl⟩
 obtain ⟨i0, hi, hz0, hz1, hz2⟩ := info_parts Dt.infoD
 have HW3 := Lib.hid hw3
 have HI1 := Lib.hid hi
 have HZ0 := Lib.hid hz0
 have HZ1 := Lib.hid hz1
 have HZ2 := Lib.hid hz2
 clear hb1 hb2 hb3 hs1 hs2 hs3 hT3 hR3 hD3 hb13 hSt hSrc hG hD hV0 hRR hR hPl hi hz0 hz1 hz2 hw3
 go_enter Try.func42, Try.ntmps42
 go_wp2
 rw [HW3.out]
 clear hw1 hw2
 go_loopw [8] (fun _ wr => ∃ (k : Nat) (ps : List Dt.P) (al : Option Addr) (cl f : Nat) (us : List Lx.PTok) (at_ er : Int), Hid (Hp wr D #[.int .i64 6, .int .i64 0, .string ⟨#[]⟩, .slice none 0 0, .slice al k cl, .slice none 0 0] 25) ∧ Hid (Dt.Rowing wr (D + 1) (.slice al k cl) ps ∧ ps.length = k) ∧ Hid (Rd.St wr P tb C xs us at_ er) ∧ Hid (Rd.LInv ta RR f (ps.map Dt.P.d) us at_ er ∧ f ≤ F) ∧ Hid (Keep (fun k => k = P) w wr) ∧ Hid (Keep (fun k => k = P ∨ D ≤ k) w3 wr)) (fun _ wr => Rd.meas wr P)
 case atStart => exact ⟨0, [], none, 0, F, r, 0, 0, HD3, HROW0, HST3, ⟨HV0.out, Nat.le_refl _⟩, HK3, Keep.refl _ _⟩
 case round =>
  clear HD3 HROW0 HST3 HV0 HK3
  obtain ⟨k, ps, al, cl, f, us, at_, er, HDB, HRW, HST, HV, HK, HK2⟩ := hrel
  obtain ⟨pa, pre, hP, hpre, hpa⟩ := HST.out
  have hTr := HT3.out.keep HK2.out (by have := HN.out; omega)
  have hRr := HR3.out.keep HK2.out (by have := HN.out; omega)
  have p0 := hP.cell 0 rfl
  have p2 := hP.cell 2 rfl
  have y0 := hTr.cell 0 rfl
  have y1 := hTr.cell 1 rfl
  have y2 := hTr.cell 2 rfl
  have y3 := hTr.cell 3 rfl
  have y4 := hTr.cell 4 rfl
  have hmeas := HST.out.meas
  have hgw : D < wr.heap.size := HDB.out.lt
  have HTR := Lib.hid hTr
  have HRR := Lib.hid hRr
  have HFIN : Hid (∀ (wz : World) (rest : List Lx.PTok) (a2 e2 : Int), Keep (fun k => k = P) w wz → Dt.Row (fun k => D + 1 ≤ k) wz (.slice al k cl) (ps.map Dt.P.d) → Rd.St wz P tb C xs rest a2 e2 → Rd.Says RR (Rd.listD (ps.map Dt.P.d)) rest a2 e2 → Rd.Out P tb C xs w RR (.returned (.agg #[.int .i64 6, .int .i64 0, .string ⟨#[]⟩, .slice none 0 0, .slice al k cl, .slice none 0 0])) (set6 wz R (.int .i64 6) (.int .i64 0) (.string ⟨#[]⟩) (.slice none 0 0) (.slice al k cl) (.slice none 0 0))) := fun wz rest a2 e2 h1 h2 h3 h4 =>
   Rd.Out.fin (x := Rd.listD (ps.map Dt.P.d)) h1 (by have := HN.out; omega) (by have := HN.out; omega) (Dt.Rep.mono (fun b hb _ => by have := HN.out; omega) _ (Rd.rep_row 6 h2)) (Rd.own_nz HRW.out.1.row) h3 h4
  by_cases he : er = 0
  case neg =>
   have he1 : (er == 0) = false := by simpa using he
   obtain ⟨b, hb1, hb2⟩ : ∃ b : Nat, at_ = (b : Int) ∧ RR = .bad b er := HV.out.1.elim (fun h => absurd h.1 he) (fun h => h.2)
   have HE := Lib.hid (HFIN.out wr us at_ er HK.out (HRW.out.2 ▸ HRW.out.1.to_row) HST.out (.inr ⟨b, er, hb2, hb1, rfl, he⟩))
   have d0 := HDB.out.cell 0 rfl
   have d1 := HDB.out.cell 1 rfl
   have d2 := HDB.out.cell 2 rfl
   have d3 := HDB.out.cell 3 rfl
   have d4 := HDB.out.cell 4 rfl
   have d5 := HDB.out.cell 5 rfl
   have r0 := hRr.cell 0 rfl
   have r1 := hRr.cell 1 rfl
   have r2 := hRr.cell 2 rfl
   have r3 := hRr.cell 3 rfl
   have r4 := hRr.cell 4 rfl
   have r5 := hRr.cell 5 rfl
   have k0 := hRr.frz 0
   have k1 := hRr.frz 1
   have k2 := hRr.frz 2
   have k3 := hRr.frz 3
   have k4 := hRr.frz 4
   have k5 := hRr.frz 5
   clear hP hpre hpa p0 hmeas hTr hRr hb1 hb2 he HV
   go_wp2
   refine bodyPost_ret (v := .agg #[.int .i64 6, .int .i64 0, .string ⟨#[]⟩, .slice none 0 0, .slice al k cl, .slice none 0 0]) (by simp [results, Try.results42, go_sem, *]) rfl ?_
   exact HE.out
  subst he
  obtain ⟨-, rfl, hpv, hro, ⟨q, rfl⟩, hkn⟩ : (0 : Int) = 0 ∧ at_ = 0 ∧ Rd.pl f ta (ps.map Dt.P.d) us = RR ∧ RR ≠ .out ∧ (∃ q, f = q + 1) ∧ (ps.map Dt.P.d).length + us.length ≤ 4096 := HV.out.1.elim id (fun h => absurd rfl h.1)
  have hfF := HV.out.2
  cases us with
  | nil =>
   rw [Rd.pl] at hpv
   have hf := fail_any P tb C xs [] (ta : Int) 41 wr HST.out
   rw [List.length_nil] at p0
   have HPV := Lib.hid hpv
   clear hP hpre hpa hmeas hTr hRr hpv hro HV hkn
   go_wp2_with fail
   refine hf.mono ?_
   rintro e w4 ⟨rfl, hst4, hk4⟩
   unfold Rd.zeroD
   have hR4 := HRR.out.keep hk4 (by have := HN.out; omega)
   have HE := Lib.hid (Rd.Out.fin (r := RR) (x := .mk 0 0 ⟨#[]⟩ [] [] []) (HK.out.trans hk4) (R := R) (by have := HN.out; omega) (by have := HN.out; omega) (Rd.rep_zero _ _) (.inl rfl) hst4 (.inr ⟨ta, 41, HPV.out.symm, rfl, rfl, by decide⟩))
   have r0 := hR4.cell 0 rfl
   have r1 := hR4.cell 1 rfl
   have r2 := hR4.cell 2 rfl
   have r3 := hR4.cell 3 rfl
   have r4 := hR4.cell 4 rfl
   have r5 := hR4.cell 5 rfl
   have k0 := hR4.frz 0
   have k1 := hR4.frz 1
   have k2 := hR4.frz 2
   have k3 := hR4.frz 3
   have k4 := hR4.frz 4
   have k5 := hR4.frz 5
   clear hf hst4 hk4 hR4 p0 p2 y0 y1 y2 y3 y4
   go_wp2
   refine bodyPost_ret (v := .agg #[.int .i64 0, .int .i64 0, .string ⟨#[]⟩, .slice none 0 0, .slice none 0 0, .slice none 0 0]) (by simp [results, Try.results42, go_sem, *]) rfl ?_
   exact HE.out
  | cons x us =>
   obtain rfl := hpa (by simp)
   have hlen : xs.length = pre.length + (us.length + 1) := by rw [hpre]; simp
   have hpi : pre.length < xs.length := by omega
   have hsrc := HSRC.out.keep HK.out (fun e => HG.out.ne e.symm)
   obtain ⟨x0, -, -, -, -⟩ := hsrc.tok pre.length hpi
   have hxi : xs[pre.length] = x := by simp only [hpre]; simp
   rw [hxi] at x0
   have hulen : us.length ≤ 4096 := by have := HG.out.few; omega
   rw [show (x :: us).length = us.length + 1 from rfl] at p0
   obtain ⟨n, hn⟩ : ∃ n, us.length = n := ⟨_, rfl⟩
   obtain ⟨cc, hcc⟩ : ∃ cc, C - pre.length = cc := ⟨_, rfl⟩
   obtain ⟨qq, hqq⟩ : ∃ qq, pre.length * 5 = qq := ⟨_, rfl⟩
   rw [hn, hcc, hqq] at p0
   rw [hqq] at x0
   have hn0 : (((n : Int) + 1) == 0) = false := by simp; omega
   have hnp : (0 : Int) < (n : Int) + 1 := by omega
   obtain ⟨xk, hxk⟩ : ∃ xk, x.t.k = xk := ⟨_, rfl⟩
   rw [hxk] at x0
   have HLN : Hid (us.length = n) := hn
   rw [Rd.pl, hxk] at hpv
   by_cases h2 : xk = 2
   ·have h2' : (xk == 2) = true := by simpa using h2
    rw [if_pos h2] at hpv
    have hnx := next_yes P tb C xs x us 0 0 wr hsrc HST.out HG.out.cap HG.out.few HG.out.C2
    have HPV := Lib.hid hpv
    clear hP hpre hpa hmeas hTr hRr hpv hro HV hkn hlen hpi hxi hulen hn hcc hqq hxk h2 hsrc
    go_wp2_with fail
    refine hnx.mono ?_
    rintro e w4 ⟨rfl, hst4, hk4⟩
    have hR4 := HRR.out.keep hk4 (by have := HN.out; omega)
    have hD4 := HDB.out.keep hk4 (by have := HN.out; omega)
    have hrow4 := HRW.out.1.keep hk4 (fun j hj _ e => by have := HN.out; omega)
    have HE := Lib.hid (HFIN.out w4 us 0 0 (HK.out.trans hk4) hrow4.to_row hst4 (.inl ⟨HPV.out.symm, rfl, rfl⟩))
    have d0 := hD4.cell 0 rfl
    have d1 := hD4.cell 1 rfl
    have d2 := hD4.cell 2 rfl
    have d3 := hD4.cell 3 rfl
    have d4 := hD4.cell 4 rfl
    have d5 := hD4.cell 5 rfl
    have r0 := hR4.cell 0 rfl
    have r1 := hR4.cell 1 rfl
    have r2 := hR4.cell 2 rfl
    have r3 := hR4.cell 3 rfl
    have r4 := hR4.cell 4 rfl
    have r5 := hR4.cell 5 rfl
    have k0 := hR4.frz 0
    have k1 := hR4.frz 1
    have k2 := hR4.frz 2
    have k3 := hR4.frz 3
    have k4 := hR4.frz 4
    have k5 := hR4.frz 5
    clear hnx hst4 hk4 hR4 hD4 hrow4 p0 p2 y0 y1 y2 y3 y4 x0
    go_wp2
    refine bodyPost_ret (v := .agg #[.int .i64 6, .int .i64 0, .string ⟨#[]⟩, .slice none 0 0, .slice al k cl, .slice none 0 0]) (by simp [results, Try.results42, go_sem, *]) rfl ?_
    exact HE.out
   ·have h2' : (xk == 2) = false := by simpa using h2
    rw [if_neg h2] at hpv
    by_cases h8 : xk = 8 ∧ ps.map Dt.P.d ≠ []
    case pos =>
     rw [if_pos h8] at hpv
     have h8' : (xk == 8) = true := by simpa using h8.1
     have hk1 : 0 < k := by
      have h1 := HRW.out.2
      have h3 := h8.2
      cases ps with
      | nil => exact absurd rfl h3
      | cons p l => simp at h1; omega
     have hk1' : decide ((0 : Int) < (k : Int)) = true := decide_eq_true (by omega)
     have hk1n : decide (0 < k) = true := decide_eq_true hk1
     have hto : Rd.pt q ta (ps.map Dt.P.d) us ≠ .out := by rw [hpv]; exact hro
     have hnx := next_yes P tb C xs x us 0 0 wr hsrc HST.out HG.out.cap HG.out.few HG.out.C2
     have HPV := Lib.hid hpv
     have HTO := Lib.hid hto
     have HKN : Hid (k + us.length ≤ 4096 ∧ q ≤ F) := ⟨by have := HRW.out.2; simp only [List.length_map, List.length_cons] at hkn; omega, by omega⟩
     have HSR := Lib.hid hsrc
     have d4 := HDB.out.cell 4 rfl
     clear hP hpre hpa hmeas hTr hRr hpv hro HV hkn hlen hpi hxi hulen hn hcc hqq hxk h2 hsrc h8 hk1 hto
     go_wp2_with fail
     refine hnx.mono ?_
     rintro e w4 ⟨rfl, hst4, hk4⟩
     have hT4 := HTR.out.keep hk4 (by have := HN.out; omega)
     have hD4 := HDB.out.keep hk4 (by have := HN.out; omega)
     have hrow4 := HRW.out.1.keep hk4 (fun j hj _ e => by have := HN.out; omega)
     have hsrc4 := HSR.out.keep hk4 (fun e => HG.out.ne e.symm)
     have hta := HTV.out.2
     have htl := tail_any P tb C xs HG.out q (fun g hg => HD.out g (by have := HKN.out.2; omega)) t us w4 (D + 1) ps al k cl hsrc4 hst4 hrow4 HRW.out.2 (by have := hD4.lt; omega) (by have := HN.out; omega) HKN.out.1 (by rw [hta]; exact HTO.out)
     rw [HTV.out.1, hta, HPV.out] at htl
     have HR4 := Lib.hid (HRR.out.keep hk4 (by have := HN.out; omega))
     have HK4 := Lib.hid hk4
     have y0 := hT4.cell 0 rfl
     have y1 := hT4.cell 1 rfl
     have y2 := hT4.cell 2 rfl
     have y3 := hT4.cell 3 rfl
     have y4 := hT4.cell 4 rfl
     have d0 := hD4.cell 0 rfl
     have d1 := hD4.cell 1 rfl
     have d2 := hD4.cell 2 rfl
     have d3 := hD4.cell 3 rfl
     have d4 := hD4.cell 4 rfl
     have d5 := hD4.cell 5 rfl
     clear hnx hst4 hk4 hT4 hD4 hrow4 hsrc4 hta p0 p2 x0
     go_wp2_with fail
     refine htl.mono ?_
     rintro e w5 ⟨y, vm, vl, vt, rest, a2, e2, rfl, hr5, hz5, hst5, hk5, hsay⟩
     obtain ⟨b1, m1, p1, b2, m2, p2, b3, m3, p3, rfl, rfl, rfl⟩ := hr5.forms
     have hR5 := HR4.out.keep hk5 (by have := HN.out; omega)
     have hkw : Keep (fun k => k = P) w w5 := ((HK.out.trans HK4.out).le (T := fun k => k = P ∨ D + 1 ≤ k) (fun j e => .inl e)).trans hk5 |>.mono (fun j hj e => by have := HN.out; omega)
     have HE := Lib.hid (Rd.Out.fin (x := y) hkw (R := R) (by have := HN.out; omega) (by have := HN.out; omega) (Dt.Rep.mono (fun j hj _ => by have := HN.out; omega) y hr5) hz5 hst5 hsay)
     have r0 := hR5.cell 0 rfl
     have r1 := hR5.cell 1 rfl
     have r2 := hR5.cell 2 rfl
     have r3 := hR5.cell 3 rfl
     have r4 := hR5.cell 4 rfl
     have r5 := hR5.cell 5 rfl
     have k0 := hR5.frz 0
     have k1 := hR5.frz 1
     have k2 := hR5.frz 2
     have k3 := hR5.frz 3
     have k4 := hR5.frz 4
     have k5 := hR5.frz 5
     clear htl hr5 hz5 hst5 hk5 hsay hR5 hkw y0 y1 y2 y3 y4 d0 d1 d2 d3 d4 d5
     go_wp2
     refine bodyPost_ret (v := .agg #[.int .i64 y.k, .int .i64 y.n, .string y.s, .slice b1 m1 p1, .slice b2 m2 p2, .slice b3 m3 p3]) (by simp [results, Try.results42, go_sem, *]) rfl ?_
     exact HE.out
    case neg =>
     rw [if_neg h8] at hpv
     by_cases h88 : xk = 8
     case pos =>
      have h8' : (xk == 8) = true := by simpa using h88
      have hk0 : k = 0 := by
       have h1 := HRW.out.2
       have h3 : ps.map Dt.P.d = [] := Classical.byContradiction fun h => h8 ⟨h88, h⟩
       have h4 : ps = [] := List.map_eq_nil_iff.1 h3
       rw [h4] at h1
       exact h1.symm
      have hk1' : decide ((0 : Int) < (k : Int)) = false := decide_eq_false (by omega)
      have hk1n : decide (0 < k) = false := decide_eq_false (by omega)
      have d4 := HDB.out.cell 4 rfl
      clear h8 h88 hk0
      have hdo : Rd.pd q (x :: us) ≠ .out := fun e => by rw [e] at hpv; exact hro hpv.symm
      have hrl := (Rd.res_len q).1 (x :: us) us.length (by simp)
      have hcall := HD.out q (by omega) (x :: us) wr.drew (by simp) (hsrc.below ((Below.refl _ wr).drew)) (HST.out.below ((Below.refl _ wr).drew)) hdo
      have hnext : ∀ (y : Dt.D) (rest : List Lx.PTok) (a2 e2 : Int), Rd.Says (Rd.pd q (x :: us)) y rest a2 e2 → Rd.LInv ta RR q (ps.map Dt.P.d ++ [y]) rest a2 e2 ∧ (if e2 = 0 then rest.length + 1 else 0) < n + 2 := by
       intro y rest a2 e2 hs
       rcases hs with ⟨e, rfl, rfl⟩ | ⟨b, c, e, rfl, rfl, hc0⟩
       ·rw [e] at hpv hrl
        have hl : rest.length ≤ us.length := hrl
        refine ⟨.inl ⟨rfl, rfl, hpv, hro, ?_, by simp only [List.length_append, List.length_cons, List.length_nil] at hkn ⊢; omega⟩, by rw [if_pos rfl]; omega⟩
        cases q with
        | zero => simp only [Rd.pl] at hpv; exact absurd hpv.symm hro
        | succ q => exact ⟨q, rfl⟩
       ·rw [e] at hpv
        exact ⟨.inr ⟨hc0, b, rfl, hpv.symm⟩, by rw [if_neg hc0]; omega⟩
      obtain ⟨RES, hRES⟩ : ∃ RES, Rd.pd q (x :: us) = RES := ⟨_, rfl⟩
      rw [hRES] at hcall hnext
      have HCL := Lib.hid hcall
      have hkl : k ≤ 4096 := by have := HRW.out.2; simp only [List.length_map, List.length_cons] at hkn; omega
      have c4 := HDB.out.cell 4 rfl
      have HDALL : Hid (∀ W, Keep (fun j => j = P) wr W → W.cell? ⟨D, 4, none⟩ = some (.slice al k cl) ∧ D + 1 ≤ W.heap.size ∧ W.ownsRow (D + 1) 25 6 (.slice al k cl) k (Dt.flatP ps)) := fun W hW =>
       ⟨(HDB.out.keep hW (by have := HN.out; omega)).cell 4 rfl, by have := (HDB.out.keep hW (by have := HN.out; omega)).lt; omega, by
        have h := (HRW.out.1.keep hW (fun j hj _ e => by have := HN.out; omega)).row
        rw [HRW.out.2] at h
        exact h⟩
      have HPUSH : Hid (∀ (w2 wD w5 : World) (y : Dt.D) (b1 b2 b3 : Option Addr) (m1 m2 m3 p1 p2 p3 : Nat) (v' : Value) (rest : List Lx.PTok) (a2 e2 : Int), Keep (fun j => j = P) wr w2 → Dt.Rep (fun j => wr.heap.size ≤ j) w2 y (.slice b1 m1 p1) (.slice b2 m2 p2) (.slice b3 m3 p3) → Rd.St w2 P tb C xs rest a2 e2 → Rd.Says RES y rest a2 e2 → Below w2.heap.size w2 wD →
        w5.ownsRow (D + 1) 25 6 v' (k + 1) (Dt.flatP ps ++ [.int .i64 y.k, .int .i64 y.n, .string y.s, .slice b1 m1 p1, .slice b2 m2 p2, .slice b3 m3 p3]) → wD.grownBy w5 (Value.slice al k cl).ownBlock → (v'.ownBlock = (Value.slice al k cl).ownBlock ∨ v'.ownBlock = some wD.heap.size) →
        w5.cell? ⟨D, 4, none⟩ = some (.slice al k cl) ∧ w5.frozen? ⟨D, 4, none⟩ = false ∧ Hid (Hp (w5.setCell ⟨D, 4, none⟩ v') D #[.int .i64 6, .int .i64 0, .string ⟨#[]⟩, .slice none 0 0, v', .slice none 0 0] 25 ∧ (Dt.Rowing (w5.setCell ⟨D, 4, none⟩ v') (D + 1) v' (ps ++ [Dt.P.mk y (.slice b1 m1 p1) (.slice b2 m2 p2) (.slice b3 m3 p3)]) ∧ (ps ++ [Dt.P.mk y (.slice b1 m1 p1) (.slice b2 m2 p2) (.slice b3 m3 p3)]).length = k + 1) ∧ Rd.St (w5.setCell ⟨D, 4, none⟩ v') P tb C xs rest a2 e2 ∧ (Rd.LInv ta RR q ((ps ++ [Dt.P.mk y (.slice b1 m1 p1) (.slice b2 m2 p2) (.slice b3 m3 p3)]).map Dt.P.d) rest a2 e2 ∧ q ≤ F) ∧ Keep (fun j => j = P) w (w5.setCell ⟨D, 4, none⟩ v') ∧ Keep (fun j => j = P ∨ D ≤ j) w3 (w5.setCell ⟨D, 4, none⟩ v') ∧ Rd.meas (w5.setCell ⟨D, 4, none⟩ v') P < Rd.meas wr P)) := by
       intro w2 wD w5 y b1 b2 b3 m1 m2 m3 p1 p2 p3 v' rest a2 e2 hk2 hr2 hst2 hs2 hbD hown hgr hat
       have hN := HN.out
       have hlp := HRW.out.2
       have hown2 : w5.ownsRow (D + 1) 25 6 v' (ps.length + 1) (Dt.flatP ps ++ (Dt.P.mk y (.slice b1 m1 p1) (.slice b2 m2 p2) (.slice b3 m3 p3)).cells) := by rw [hlp]; exact hown
       obtain ⟨g1, g2⟩ := Rd.pushK HRW.out.1 (by have := HDB.out.lt; omega) hk2 (fun j hj e => by omega) hr2 hbD hown2 hgr hat
       have hvb : ∀ j, (Value.slice al k cl).ownBlock = some j → D + 1 ≤ j ∧ j < wr.heap.size := fun j e => Dt.own_lt HRW.out.1.row j e
       have hD5 := HDB.out.keep g2 (fun e => e.elim (fun e => by omega) (fun e => by have := hvb D e; omega))
       have hk6 : Keep (fun j => j = D) w5 (w5.setCell ⟨D, 4, none⟩ v') := set_keep _ _ _ _
       have hst5 : Rd.St (w5.setCell ⟨D, 4, none⟩ v') P tb C xs rest a2 e2 := by
        refine ((hst2.below hbD).keep (Dt.Cd_keep_grown hgr) (fun e => by have := hvb P e; omega)).keep hk6 (by omega)
       have hkw : Keep (fun j => j = P ∨ D ≤ j) wr (w5.setCell ⟨D, 4, none⟩ v') := (g2.le (fun j e => e.elim .inl (fun e => .inr (by have := hvb j e; omega)))).trans (hk6.le (fun j e => .inr (by omega)))
       obtain ⟨n1, n2⟩ := hnext y rest a2 e2 hs2
       refine ⟨hD5.cell 4 rfl, hD5.frz 4, hD5.set 4 _, ⟨g1.keep hk6 (fun j hj _ e => by omega), by rw [List.length_append, hlp]; rfl⟩, hst5, ⟨by rw [List.map_append]; exact n1, by omega⟩, ?_, HK2.out.trans hkw, ?_⟩
       ·exact (((HK.out.le (T := fun j => j = P ∨ D ≤ j) (fun j e => .inl e)).trans hkw)).mono (fun j hj e => by omega)
       ·rw [hst5.meas, HST.out.meas, if_pos rfl]
        simp only [List.length_cons]
        omega
      have hm1 : k + 1 ≤ maxLen := by unfold maxLen; omega
      have hm2 : (k + 1) * 104 ≤ 140737488355328 := by omega
      have HBD : Hid (Keep (fun j => j = P) wr wr.drew) := (Keep.refl _ wr).drew 1
      obtain ⟨-, HB0, -⟩ := HDALL.out wr (Keep.refl _ _)
      clear hP hpre hpa hmeas hTr hRr hpv hro HV hkn hlen hpi hxi hulen hn hcc hqq hxk h2 hsrc hdo hrl hcall hnext hRES HRW HST HK HK2 HDB HFIN HTR HRR hkl
      go_upto_region 12 with fail
      clear p0 p2 y0 y1 y2 y3 y4 x0
      go_region_law (first | (refine Ap.step rfl (.tmp 53) (.tmp 56) 23 (by kernel_rfl) (D + 1) 25 i0 (.agg #[.int .i64 0, .int .i64 0, .string ⟨#[]⟩, .slice none 0 0, .slice none 0 0, .slice none 0 0]) 6 104 Try.underlying23 HI1.out HZ0.out HZ1.out HZ2.out rfl (by decide) (.slice al k cl) k (Dt.flatP ps) (by kernel_rfl) HOWND.out (.slice (some ⟨w2.heap.size, 0, none⟩) 1 1) 1 [.int .i64 y.k, .int .i64 y.n, .string y.s, .slice b1 m1 p1, .slice b2 m2 p2, .slice b3 m3 p3] (by kernel_rfl) HSRD.out rfl (by simp [Value.oneCell']) hm1 hm2 HBS.out ?_; intro v' w5 hown hgrow hat; obtain ⟨a5, c5, rfl⟩ := Dt.row_form hown; obtain ⟨d1, f1, HFN⟩ := HPUSH.out w2 wD w5 y b1 b2 b3 m1 m2 m3 p1 p2 p3 _ rest a2 e2 HKW.out HR2W.out HSTW.out HSAY.out HBWD.out hown hgrow hat; clear hown hgrow hat) | (go_simp; refine HCL.out.mono ?_; rintro e w2 ⟨y, vm, vl, vt, rest, a2, e2, rfl, hr2, -, hst2, hk2, hsay⟩; obtain ⟨b1, m1, p1, b2, m2, p2, b3, m3, p3, rfl, rfl, rfl⟩ := hr2.forms; have HKW : Hid (Keep (fun j => j = P) wr w2) := HBD.out.trans hk2; have HR2W : Hid (Dt.Rep (fun k => wr.heap.size ≤ k) w2 y (.slice b1 m1 p1) (.slice b2 m2 p2) (.slice b3 m3 p3)) := hr2; have HSTW := Lib.hid hst2; have HSAY := Lib.hid hsay; obtain ⟨wD, hwD⟩ : ∃ wD, w2.alloc (.cells #[.int .i64 y.k, .int .i64 y.n, .string y.s, .slice b1 m1 p1, .slice b2 m2 p2, .slice b3 m3 p3] 25) = wD := ⟨_, rfl⟩; have HBWD : Hid (Below w2.heap.size w2 wD) := (new_below hwD).1; have HSRD : Hid (Ap.Src wD (.slice (some ⟨w2.heap.size, 0, none⟩) 1 1) 1 [.int .i64 y.k, .int .i64 y.n, .string y.s, .slice b1 m1 p1, .slice b2 m2 p2, .slice b3 m3 p3]) := Rd.srcNew hwD; obtain ⟨e1, -, -⟩ := HDALL.out w2 HKW.out; obtain ⟨e3, hbs, howD⟩ := HDALL.out wD (HKW.out.trans (keep_of_below HBWD.out)); have HBS := Lib.hid hbs; have HOWND := Lib.hid howD; clear hr2 hst2 hk2 hsay hbs howD; dsimp only))
      all_goals
       go_wp2
       go_roundw
       case rel =>
        obtain ⟨h1, h2, h3, h4, h5, h6, h7⟩ := HFN.out
        exact ⟨k + 1, ps ++ [Dt.P.mk y (.slice b1 m1 p1) (.slice b2 m2 p2) (.slice b3 m3 p3)], a5, c5, q, rest, a2, e2, h1, h2, h3, h4, h5, h6⟩
       case measure => exact HFN.out.2.2.2.2.2.2
     case neg =>
      have h8' : (xk == 8) = false := by simpa using h88
      clear h8 h88
      have hdo : Rd.pd q (x :: us) ≠ .out := fun e => by rw [e] at hpv; exact hro hpv.symm
      have hrl := (Rd.res_len q).1 (x :: us) us.length (by simp)
      have hcall := HD.out q (by omega) (x :: us) wr.drew (by simp) (hsrc.below ((Below.refl _ wr).drew)) (HST.out.below ((Below.refl _ wr).drew)) hdo
      have hnext : ∀ (y : Dt.D) (rest : List Lx.PTok) (a2 e2 : Int), Rd.Says (Rd.pd q (x :: us)) y rest a2 e2 → Rd.LInv ta RR q (ps.map Dt.P.d ++ [y]) rest a2 e2 ∧ (if e2 = 0 then rest.length + 1 else 0) < n + 2 := by
       intro y rest a2 e2 hs
       rcases hs with ⟨e, rfl, rfl⟩ | ⟨b, c, e, rfl, rfl, hc0⟩
       ·rw [e] at hpv hrl
        have hl : rest.length ≤ us.length := hrl
        refine ⟨.inl ⟨rfl, rfl, hpv, hro, ?_, by simp only [List.length_append, List.length_cons, List.length_nil] at hkn ⊢; omega⟩, by rw [if_pos rfl]; omega⟩
        cases q with
        | zero => simp only [Rd.pl] at hpv; exact absurd hpv.symm hro
        | succ q => exact ⟨q, rfl⟩
       ·rw [e] at hpv
        exact ⟨.inr ⟨hc0, b, rfl, hpv.symm⟩, by rw [if_neg hc0]; omega⟩
      obtain ⟨RES, hRES⟩ : ∃ RES, Rd.pd q (x :: us) = RES := ⟨_, rfl⟩
      rw [hRES] at hcall hnext
      have HCL := Lib.hid hcall
      have hkl : k ≤ 4096 := by have := HRW.out.2; simp only [List.length_map, List.length_cons] at hkn; omega
      have c4 := HDB.out.cell 4 rfl
      have HDALL : Hid (∀ W, Keep (fun j => j = P) wr W → W.cell? ⟨D, 4, none⟩ = some (.slice al k cl) ∧ D + 1 ≤ W.heap.size ∧ W.ownsRow (D + 1) 25 6 (.slice al k cl) k (Dt.flatP ps)) := fun W hW =>
       ⟨(HDB.out.keep hW (by have := HN.out; omega)).cell 4 rfl, by have := (HDB.out.keep hW (by have := HN.out; omega)).lt; omega, by
        have h := (HRW.out.1.keep hW (fun j hj _ e => by have := HN.out; omega)).row
        rw [HRW.out.2] at h
        exact h⟩
      have HPUSH : Hid (∀ (w2 wD w5 : World) (y : Dt.D) (b1 b2 b3 : Option Addr) (m1 m2 m3 p1 p2 p3 : Nat) (v' : Value) (rest : List Lx.PTok) (a2 e2 : Int), Keep (fun j => j = P) wr w2 → Dt.Rep (fun j => wr.heap.size ≤ j) w2 y (.slice b1 m1 p1) (.slice b2 m2 p2) (.slice b3 m3 p3) → Rd.St w2 P tb C xs rest a2 e2 → Rd.Says RES y rest a2 e2 → Below w2.heap.size w2 wD →
        w5.ownsRow (D + 1) 25 6 v' (k + 1) (Dt.flatP ps ++ [.int .i64 y.k, .int .i64 y.n, .string y.s, .slice b1 m1 p1, .slice b2 m2 p2, .slice b3 m3 p3]) → wD.grownBy w5 (Value.slice al k cl).ownBlock → (v'.ownBlock = (Value.slice al k cl).ownBlock ∨ v'.ownBlock = some wD.heap.size) →
        w5.cell? ⟨D, 4, none⟩ = some (.slice al k cl) ∧ w5.frozen? ⟨D, 4, none⟩ = false ∧ Hid (Hp (w5.setCell ⟨D, 4, none⟩ v') D #[.int .i64 6, .int .i64 0, .string ⟨#[]⟩, .slice none 0 0, v', .slice none 0 0] 25 ∧ (Dt.Rowing (w5.setCell ⟨D, 4, none⟩ v') (D + 1) v' (ps ++ [Dt.P.mk y (.slice b1 m1 p1) (.slice b2 m2 p2) (.slice b3 m3 p3)]) ∧ (ps ++ [Dt.P.mk y (.slice b1 m1 p1) (.slice b2 m2 p2) (.slice b3 m3 p3)]).length = k + 1) ∧ Rd.St (w5.setCell ⟨D, 4, none⟩ v') P tb C xs rest a2 e2 ∧ (Rd.LInv ta RR q ((ps ++ [Dt.P.mk y (.slice b1 m1 p1) (.slice b2 m2 p2) (.slice b3 m3 p3)]).map Dt.P.d) rest a2 e2 ∧ q ≤ F) ∧ Keep (fun j => j = P) w (w5.setCell ⟨D, 4, none⟩ v') ∧ Keep (fun j => j = P ∨ D ≤ j) w3 (w5.setCell ⟨D, 4, none⟩ v') ∧ Rd.meas (w5.setCell ⟨D, 4, none⟩ v') P < Rd.meas wr P)) := by
       intro w2 wD w5 y b1 b2 b3 m1 m2 m3 p1 p2 p3 v' rest a2 e2 hk2 hr2 hst2 hs2 hbD hown hgr hat
       have hN := HN.out
       have hlp := HRW.out.2
       have hown2 : w5.ownsRow (D + 1) 25 6 v' (ps.length + 1) (Dt.flatP ps ++ (Dt.P.mk y (.slice b1 m1 p1) (.slice b2 m2 p2) (.slice b3 m3 p3)).cells) := by rw [hlp]; exact hown
       obtain ⟨g1, g2⟩ := Rd.pushK HRW.out.1 (by have := HDB.out.lt; omega) hk2 (fun j hj e => by omega) hr2 hbD hown2 hgr hat
       have hvb : ∀ j, (Value.slice al k cl).ownBlock = some j → D + 1 ≤ j ∧ j < wr.heap.size := fun j e => Dt.own_lt HRW.out.1.row j e
       have hD5 := HDB.out.keep g2 (fun e => e.elim (fun e => by omega) (fun e => by have := hvb D e; omega))
       have hk6 : Keep (fun j => j = D) w5 (w5.setCell ⟨D, 4, none⟩ v') := set_keep _ _ _ _
       have hst5 : Rd.St (w5.setCell ⟨D, 4, none⟩ v') P tb C xs rest a2 e2 := by
        refine ((hst2.below hbD).keep (Dt.Cd_keep_grown hgr) (fun e => by have := hvb P e; omega)).keep hk6 (by omega)
       have hkw : Keep (fun j => j = P ∨ D ≤ j) wr (w5.setCell ⟨D, 4, none⟩ v') := (g2.le (fun j e => e.elim .inl (fun e => .inr (by have := hvb j e; omega)))).trans (hk6.le (fun j e => .inr (by omega)))
       obtain ⟨n1, n2⟩ := hnext y rest a2 e2 hs2
       refine ⟨hD5.cell 4 rfl, hD5.frz 4, hD5.set 4 _, ⟨g1.keep hk6 (fun j hj _ e => by omega), by rw [List.length_append, hlp]; rfl⟩, hst5, ⟨by rw [List.map_append]; exact n1, by omega⟩, ?_, HK2.out.trans hkw, ?_⟩
       ·exact (((HK.out.le (T := fun j => j = P ∨ D ≤ j) (fun j e => .inl e)).trans hkw)).mono (fun j hj e => by omega)
       ·rw [hst5.meas, HST.out.meas, if_pos rfl]
        simp only [List.length_cons]
        omega
      have hm1 : k + 1 ≤ maxLen := by unfold maxLen; omega
      have hm2 : (k + 1) * 104 ≤ 140737488355328 := by omega
      have HBD : Hid (Keep (fun j => j = P) wr wr.drew) := (Keep.refl _ wr).drew 1
      obtain ⟨-, HB0, -⟩ := HDALL.out wr (Keep.refl _ _)
      clear hP hpre hpa hmeas hTr hRr hpv hro HV hkn hlen hpi hxi hulen hn hcc hqq hxk h2 hsrc hdo hrl hcall hnext hRES HRW HST HK HK2 HDB HFIN HTR HRR hkl
      go_upto_region 12 with fail
      clear p0 p2 y0 y1 y2 y3 y4 x0
      go_region_law (first | (refine Ap.step rfl (.tmp 53) (.tmp 56) 23 (by kernel_rfl) (D + 1) 25 i0 (.agg #[.int .i64 0, .int .i64 0, .string ⟨#[]⟩, .slice none 0 0, .slice none 0 0, .slice none 0 0]) 6 104 Try.underlying23 HI1.out HZ0.out HZ1.out HZ2.out rfl (by decide) (.slice al k cl) k (Dt.flatP ps) (by kernel_rfl) HOWND.out (.slice (some ⟨w2.heap.size, 0, none⟩) 1 1) 1 [.int .i64 y.k, .int .i64 y.n, .string y.s, .slice b1 m1 p1, .slice b2 m2 p2, .slice b3 m3 p3] (by kernel_rfl) HSRD.out rfl (by simp [Value.oneCell']) hm1 hm2 HBS.out ?_; intro v' w5 hown hgrow hat; obtain ⟨a5, c5, rfl⟩ := Dt.row_form hown; obtain ⟨d1, f1, HFN⟩ := HPUSH.out w2 wD w5 y b1 b2 b3 m1 m2 m3 p1 p2 p3 _ rest a2 e2 HKW.out HR2W.out HSTW.out HSAY.out HBWD.out hown hgrow hat; clear hown hgrow hat) | (go_simp; refine HCL.out.mono ?_; rintro e w2 ⟨y, vm, vl, vt, rest, a2, e2, rfl, hr2, -, hst2, hk2, hsay⟩; obtain ⟨b1, m1, p1, b2, m2, p2, b3, m3, p3, rfl, rfl, rfl⟩ := hr2.forms; have HKW : Hid (Keep (fun j => j = P) wr w2) := HBD.out.trans hk2; have HR2W : Hid (Dt.Rep (fun k => wr.heap.size ≤ k) w2 y (.slice b1 m1 p1) (.slice b2 m2 p2) (.slice b3 m3 p3)) := hr2; have HSTW := Lib.hid hst2; have HSAY := Lib.hid hsay; obtain ⟨wD, hwD⟩ : ∃ wD, w2.alloc (.cells #[.int .i64 y.k, .int .i64 y.n, .string y.s, .slice b1 m1 p1, .slice b2 m2 p2, .slice b3 m3 p3] 25) = wD := ⟨_, rfl⟩; have HBWD : Hid (Below w2.heap.size w2 wD) := (new_below hwD).1; have HSRD : Hid (Ap.Src wD (.slice (some ⟨w2.heap.size, 0, none⟩) 1 1) 1 [.int .i64 y.k, .int .i64 y.n, .string y.s, .slice b1 m1 p1, .slice b2 m2 p2, .slice b3 m3 p3]) := Rd.srcNew hwD; obtain ⟨e1, -, -⟩ := HDALL.out w2 HKW.out; obtain ⟨e3, hbs, howD⟩ := HDALL.out wD (HKW.out.trans (keep_of_below HBWD.out)); have HBS := Lib.hid hbs; have HOWND := Lib.hid howD; clear hr2 hst2 hk2 hsay hbs howD; dsimp only))
      all_goals
       go_wp2
       go_roundw
       case rel =>
        obtain ⟨h1, h2, h3, h4, h5, h6, h7⟩ := HFN.out
        exact ⟨k + 1, ps ++ [Dt.P.mk y (.slice b1 m1 p1) (.slice b2 m2 p2) (.slice b3 m3 p3)], a5, c5, q, rest, a2, e2, h1, h2, h3, h4, h5, h6⟩
       case measure => exact HFN.out.2.2.2.2.2.2
end Go.Proofs.Ytcopdfihaheplaa
namespace Go.Proofs.Ytcopdfihaheplaa
open Go.RowKit
attribute [local go_sem] Oper.semAt_some
set_option maxRecDepth 100000 in
theorem signs_any (w : World) : Calls Try.prog 51 #[] w fun e w' => e = .returned (.agg #[.string ⟨#[113, 117, 111, 116, 101]⟩, .string ⟨#[113, 117, 97, 115, 105, 113, 117, 111, 116, 101]⟩, .string ⟨#[117, 110, 113, 117, 111, 116, 101]⟩, .string ⟨#[117, 110, 113, 117, 111, 116, 101, 45, 115, 112, 108, 105, 99, 105, 110, 103]⟩]) ∧ Below w.heap.size w w' := by
 go_enter Try.func51, Try.ntmps51
 go_wp2
 exact bodyPost_ret (v := .agg #[.string ⟨#[113, 117, 111, 116, 101]⟩, .string ⟨#[113, 117, 97, 115, 105, 113, 117, 111, 116, 101]⟩, .string ⟨#[117, 110, 113, 117, 111, 116, 101]⟩, .string ⟨#[117, 110, 113, 117, 111, 116, 101, 45, 115, 112, 108, 105, 99, 105, 110, 103]⟩]) (by simp [results, Try.results51, go_sem]) rfl ⟨rfl, (Below.refl _ _).alloc (Nat.le_refl _) _⟩
set_option maxRecDepth 100000 in
set_option maxHeartbeats 4000000 in
theorem dataClone_any (b n c : Nat) (qs : List Dt.P) (w : World) (hsrc : ∀ j u, (Dt.flatP qs)[j]? = some u → w.cell? ((⟨b, 0, none⟩ : Addr).add j) = some u) (hn : qs.length = n) (hl : n ≤ 4096) (h1 : ∀ u ∈ Dt.flatP qs, u.oneCell' = true) :
  Calls Try.prog 92 #[.slice (some ⟨b, 0, none⟩) n c] w fun e w' => ∃ v', e = .returned v' ∧ w'.ownsRow w.heap.size 25 6 v' n (Dt.flatP qs) ∧ Below w.heap.size w w' := by
 have hnil := Lib.run_eql_slice_nil (P := Try.prog) w 23 25 (some ⟨b, 0, none⟩) n c 0 0 Try.underlying23
 obtain ⟨i1, hi1, hy0, hy1, hy2⟩ := info_parts Dt.infoD
 have hm1 : 0 + n ≤ maxLen := by unfold maxLen; omega
 have hm2 : (0 + n) * 104 ≤ 140737488355328 := by omega
 obtain ⟨wA, hwA⟩ : ∃ wA, w.alloc (.cells #[] 25) = wA := ⟨_, rfl⟩
 have hb : Below w.heap.size w wA := by rw [← hwA]; exact (Below.refl _ _).alloc (Nat.le_refl _) _
 have hown : wA.ownsRow w.heap.size 25 6 (.slice (some ⟨w.heap.size, 0, none⟩) 0 0) 0 [] := by rw [← hwA]; exact World.ownsRow_made w #[] 0 (Nat.le_refl _) (by decide) (by simp)
 have hsA : Ap.Src wA (.slice (some ⟨b, 0, none⟩) n c) n (Dt.flatP qs) := .inr ⟨_, _, rfl, fun j u hu => (hb.cell (World.block_lt_of_cell? w _ (hsrc j u hu))).trans (hsrc j u hu)⟩
 have hln : (Dt.flatP qs).length = n * 6 := by rw [Rd.flatP_len, hn]
 obtain ⟨X, hX⟩ : ∃ X, Dt.flatP qs = X := ⟨_, rfl⟩
 rw [hX] at hsA hln h1 ⊢
 have HS := Lib.hid hsA
 have HO := Lib.hid hown
 have HB := Lib.hid hb
 have HLN := Lib.hid hln
 have H1 := Lib.hid h1
 clear hsrc hown hb hX hsA hln h1 hn
 go_enter Try.func92, Try.ntmps92
 go_wp2_with (at_builtin; refine Ap.list rfl _ _ 23 rfl w.heap.size 25 i1 (.agg #[.int .i64 0, .int .i64 0, .string ⟨#[]⟩, .slice none 0 0, .slice none 0 0, .slice none 0 0]) 6 104 Try.underlying23 hi1 hy0 hy1 hy2 rfl (by decide) (.slice (some ⟨w.heap.size, 0, none⟩) 0 0) 0 [] rfl HO.out (.slice (some ⟨b, 0, none⟩) n c) n X rfl HS.out HLN.out H1.out hm1 hm2 HB.out.size ?_; intro v' w5 hown hg hat; obtain ⟨a5, c5, rfl⟩ := Dt.row_form hown)
 go_ret
 simp only [Nat.zero_add, List.nil_append] at hown
 exact ⟨_, rfl, by simpa using hown, Dt.grown_below HB.out hg (Nat.le_refl _) (fun k hk => by cases hk; exact Nat.le_refl _)⟩
set_option maxRecDepth 100000 in
set_option maxHeartbeats 4000000 in
theorem dataList_any (b n c : Nat) (qs : List Dt.P) (w : World) (hsrc : ∀ j u, (Dt.flatP qs)[j]? = some u → w.cell? ((⟨b, 0, none⟩ : Addr).add j) = some u) (hn : qs.length = n) (hl : n ≤ 4096) (h1 : ∀ u ∈ Dt.flatP qs, u.oneCell' = true) :
  Calls Try.prog 69 #[.slice (some ⟨b, 0, none⟩) n c] w fun e w' => ∃ a' c', e = .returned (.agg #[.int .i64 6, .int .i64 0, .string ⟨#[]⟩, .slice none 0 0, .slice a' n c', .slice none 0 0]) ∧ w'.ownsRow w.heap.size 25 6 (.slice a' n c') n (Dt.flatP qs) ∧ Below w.heap.size w w' := by
 obtain ⟨w1, hw1⟩ : ∃ w1, w.alloc (.cells #[.int .i64 0, .int .i64 0, .string ⟨#[]⟩, .slice none 0 0, .slice none 0 0, .slice none 0 0] 25) = w1 := ⟨_, rfl⟩
 obtain ⟨hb1, hs1⟩ := new_below hw1
 have hR1 := Hp.new hw1
 have hcl := dataClone_any b n c qs w1 (fun j u hu => (hb1.cell (World.block_lt_of_cell? w _ (hsrc j u hu))).trans (hsrc j u hu)) hn hl h1
 have HB1 := Lib.hid hb1
 have HR1 := Lib.hid hR1
 have HS1 := Lib.hid hs1
 obtain ⟨R, hR⟩ : ∃ R, w.heap.size = R := ⟨_, rfl⟩
 have HRR := Lib.hid hR
 clear hsrc hn hl h1 hb1 hs1 hR1
 go_enter Try.func69, Try.ntmps69
 go_wp2_with fail
 refine hcl.mono ?_
 rintro e w2 ⟨v', rfl, hown, hb2⟩
 obtain ⟨a', c', rfl⟩ := Dt.row_form hown
 have hR2 := HR1.out.below hb2
 rw [HRR.out] at hR2
 have hk3 := set6_keep w2 R (.int .i64 6) (.int .i64 0) (.string ⟨#[]⟩) (.slice none 0 0) (.slice a' n c') (.slice none 0 0)
 have HE : Hid ((set6 w2 R (.int .i64 6) (.int .i64 0) (.string ⟨#[]⟩) (.slice none 0 0) (.slice a' n c') (.slice none 0 0)).ownsRow w.heap.size 25 6 (.slice a' n c') n (Dt.flatP qs) ∧ Below w.heap.size w (set6 w2 R (.int .i64 6) (.int .i64 0) (.string ⟨#[]⟩) (.slice none 0 0) (.slice a' n c') (.slice none 0 0))) := by
  have h1 := HS1.out
  have h2 := HRR.out
  refine ⟨?_, (HB1.out.trans (hb2.mono HB1.out.size)).trans (hk3.to_below (fun k e => by omega) (by have := hb2.size; omega))⟩
  have h3 := Dt.own_keep hown hk3 (fun k e => by have := (Dt.own_lt hown k e).1; omega)
  exact Rd.own_base h3 (by omega)
 have r0 := hR2.cell 0 rfl
 have r1 := hR2.cell 1 rfl
 have r2 := hR2.cell 2 rfl
 have r3 := hR2.cell 3 rfl
 have r4 := hR2.cell 4 rfl
 have r5 := hR2.cell 5 rfl
 have k0 := hR2.frz 0
 have k1 := hR2.frz 1
 have k2 := hR2.frz 2
 have k3 := hR2.frz 3
 have k4 := hR2.frz 4
 have k5 := hR2.frz 5
 clear hcl hown hb2 hR2 hk3 hw1
 go_wp2
 refine bodyPost_ret (v := .agg #[.int .i64 6, .int .i64 0, .string ⟨#[]⟩, .slice none 0 0, .slice a' n c', .slice none 0 0]) (by simp [results, Try.results69, go_sem, *]) rfl ?_
 exact ⟨_, _, rfl, HE.out⟩
set_option maxRecDepth 100000 in
set_option maxHeartbeats 16000000 in
theorem quote_4 (P tb C : Nat) (xs : List Lx.PTok) (hG : Rd.G P tb C xs) (F : Nat) (hD : ∀ g, g < F → Rd.DatumIs P tb C xs g) (ta : Nat) (tz tn : Int) (ts : ByteArray) (r : List Lx.PTok) (w : World) (hSrc : Rd.Src w tb xs) (hSt : Rd.St w P tb C xs r 0 0) (hR : Rd.pq F ta 4 r ≠ .out) :
  Calls Try.prog 45 #[.pointer (some ⟨P, 0, none⟩), .agg #[.int .i64 4, .int .i64 (ta : Int), .int .i64 tz, .int .i64 tn, .string ts]] w (Rd.Out P tb C xs w (Rd.pq F ta 4 r)) := by
 obtain ⟨RR, hRR⟩ : ∃ RR, Rd.pq F ta 4 r = RR := ⟨_, rfl⟩
 rw [hRR] at hR ⊢
 obtain ⟨q, rfl⟩ : ∃ q, F = q + 1 := by
  cases F with
  | zero => rw [Rd.pq] at hRR; exact absurd hRR.symm hR
  | succ q => exact ⟨q, rfl⟩
 obtain ⟨w1, hw1⟩ : ∃ w1, w.alloc (.cells #[.int .i64 4, .int .i64 (ta : Int), .int .i64 tz, .int .i64 tn, .string ts] 47) = w1 := ⟨_, rfl⟩
 obtain ⟨w3, hw3⟩ : ∃ w3, w1.alloc (.cells #[.int .i64 0, .int .i64 0, .string ⟨#[]⟩, .slice none 0 0, .slice none 0 0, .slice none 0 0] 25) = w3 := ⟨_, rfl⟩
 obtain ⟨hb1, hs1⟩ := new_below hw1
 obtain ⟨hb3, hs3⟩ := new_below hw3
 have hT3 := (Hp.new hw1).below hb3
 have hR3 := Hp.new hw3
 have hb13 := hb1.trans (hb3.mono hb1.size)
 obtain ⟨T, hT⟩ : ∃ T, w.heap.size = T := ⟨_, rfl⟩
 obtain ⟨R, hRb⟩ : ∃ R, w1.heap.size = R := ⟨_, rfl⟩
 rw [hT] at hT3 hs1
 rw [hRb] at hR3 hs1 hs3
 have hPl := hSt.lt
 rw [hT] at hPl
 have HN : Hid (P < T ∧ R = T + 1 ∧ w3.heap.size = T + 2 ∧ w.heap.size = T) := ⟨hPl, hs1, by omega, hT⟩
 have hst3 := hSt.below hb13
 have HST3 := Lib.hid hst3
 have HSRC3 := Lib.hid (hSrc.below hb13)
 have HT3 := Lib.hid hT3
 have HR3 := Lib.hid hR3
 have HK3 : Hid (Keep (fun k => k = P) w w3) := keep_of_below hb13
 have HG := Lib.hid hG
 have HD := Lib.hid hD
 obtain ⟨pa, pre, hP, hpre, hpa⟩ := hst3
 have p0 := hP.cell 0 rfl
 clear hb1 hb3 hs1 hs3 hb13 hSt hSrc hG hD hPl
 cases r with
 | nil =>
  rw [Rd.pq] at hRR
  have HRR := Lib.hid hRR
  have hf := fail_any P tb C xs [] (ta : Int) 41 w3 HST3.out
  have y1 := hT3.cell 1 rfl
  rw [List.length_nil] at p0
  clear hT3 hR3 hP hpre hpa hRR hR
  go_enter Try.func45, Try.ntmps45
  go_wp2_with fail
  refine hf.mono ?_
  rintro e w4 ⟨rfl, hst4, hk4⟩
  unfold Rd.zeroD
  have hR4 := HR3.out.keep hk4 (by have := HN.out; omega)
  have HE := Lib.hid (Rd.Out.fin (r := RR) (x := .mk 0 0 ⟨#[]⟩ [] [] []) (HK3.out.trans hk4) (R := R) (by have := HN.out; omega) (by have := HN.out; omega) (Rd.rep_zero _ _) (.inl rfl) hst4 (.inr ⟨ta, 41, HRR.out.symm, rfl, rfl, by decide⟩))
  have r0 := hR4.cell 0 rfl
  have r1 := hR4.cell 1 rfl
  have r2 := hR4.cell 2 rfl
  have r3 := hR4.cell 3 rfl
  have r4 := hR4.cell 4 rfl
  have r5 := hR4.cell 5 rfl
  have k0 := hR4.frz 0
  have k1 := hR4.frz 1
  have k2 := hR4.frz 2
  have k3 := hR4.frz 3
  have k4 := hR4.frz 4
  have k5 := hR4.frz 5
  clear hf hst4 hk4 hR4 p0 y1 hw1 hw3
  go_wp2
  refine bodyPost_ret (v := .agg #[.int .i64 0, .int .i64 0, .string ⟨#[]⟩, .slice none 0 0, .slice none 0 0, .slice none 0 0]) (by simp [results, Try.results45, go_sem, *]) rfl ?_
  exact HE.out
 | cons x us =>
  rw [Rd.pq] at hRR
  have hdo : Rd.pd q (x :: us) ≠ .out := fun e => by rw [e] at hRR; exact hR hRR.symm
  obtain ⟨RES, hRES⟩ : ∃ RES, Rd.pd q (x :: us) = RES := ⟨_, rfl⟩
  have HCALL : Hid (∀ W, Below w3.heap.size w3 W → Calls Try.prog 28 #[.pointer (some ⟨P, 0, none⟩)] W (Rd.Out P tb C xs W RES)) := fun W hW => by
   rw [← hRES]
   exact HD.out q (by omega) (x :: us) W (by simp) (HSRC3.out.below hW) (HST3.out.below hW) hdo
  have hn0 : ((((x :: us).length : Nat) : Int) == 0) = false := by simp; omega
  rw [show (x :: us).length = us.length + 1 from rfl] at p0 hn0
  obtain ⟨n, hn⟩ : ∃ n, us.length = n := ⟨_, rfl⟩
  rw [hn] at p0 hn0
  have hn0' : (((n : Int) + 1) == 0) = false := by simp; omega
  have HBD : Hid (Below w3.heap.size w3 w3.drew) := (Below.refl _ w3).drew
  have HTS : Hid (w3.drew.cell? ⟨T, 0, none⟩ = some (.int .i64 4)) := hT3.cell 0 rfl
  have HTK : Hid (∀ W, Below w3.heap.size w3 W → W.cell? ⟨T, 0, none⟩ = some (.int .i64 4)) := fun W hW => (HT3.out.below hW).cell 0 rfl
  have HTK2 : Hid (∀ W, Keep (fun j => j = P) w3 W → W.cell? ⟨T, 0, none⟩ = some (.int .i64 4)) := fun W hW => (HT3.out.keep hW (by have := HN.out; omega)).cell 0 rfl
  have HINF : Hid ((Try.prog.info? 25).map (·.size) = some 6) := by show _ = _; kernel_rfl
  have HFIN : Hid (∀ (w5 w6 w7 : World) (y : Dt.D) (b1 b2 b3 : Option Addr) (m1 m2 m3 p1 p2 p3 : Nat) (a7 : Option Addr) (c7 : Nat) (rest : List Lx.PTok) (a2 e2 : Int), Keep (fun j => j = P) w3 w5 → Dt.Rep (fun j => w3.heap.size ≤ j) w5 y (.slice b1 m1 p1) (.slice b2 m2 p2) (.slice b3 m3 p3) → Rd.St w5 P tb C xs rest a2 e2 → Rd.Says RES y rest a2 e2 → Below w5.heap.size w5 w6 → w7.ownsRow w6.heap.size 25 6 (.slice a7 2 c7) 2 (Dt.flatP [Dt.P.mk (Rd.symD (Rd.sgn 4)) (.slice none 0 0) (.slice none 0 0) (.slice none 0 0), Dt.P.mk y (.slice b1 m1 p1) (.slice b2 m2 p2) (.slice b3 m3 p3)]) → Below w6.heap.size w6 w7 →
    w7.cell? ⟨T, 0, none⟩ = some (.int .i64 4) ∧ w7.there R 0 6 ∧ ((set6 w7 R (.int .i64 6) (.int .i64 0) (.string ⟨#[]⟩) (.slice none 0 0) (.slice a7 2 c7) (.slice none 0 0)).cell? ⟨T, 0, none⟩ = some (.int .i64 4) ∧ Hp (set6 w7 R (.int .i64 6) (.int .i64 0) (.string ⟨#[]⟩) (.slice none 0 0) (.slice a7 2 c7) (.slice none 0 0)) R #[.int .i64 6, .int .i64 0, .string ⟨#[]⟩, .slice none 0 0, .slice a7 2 c7, .slice none 0 0] 25) ∧
    Rd.Out P tb C xs w RR (.returned (.agg #[.int .i64 6, .int .i64 0, .string ⟨#[]⟩, .slice none 0 0, .slice a7 2 c7, .slice none 0 0])) (set6 w7 R (.int .i64 6) (.int .i64 0) (.string ⟨#[]⟩) (.slice none 0 0) (.slice a7 2 c7) (.slice none 0 0))) := by
   intro w5 w6 w7 y b1 b2 b3 m1 m2 m3 p1 p2 p3 a7 c7 rest a2 e2 hk5 hr5 hst5 hsay hb6 hown7 hb7
   have hN := HN.out
   have hb57 := hb6.trans (hb7.mono hb6.size)
   have hk7 := hk5.trans (keep_of_below hb57)
   have hT7 := HT3.out.keep hk7 (by omega)
   have hR7 := HR3.out.keep hk7 (by omega)
   have hks := set6_keep w7 R (.int .i64 6) (.int .i64 0) (.string ⟨#[]⟩) (.slice none 0 0) (.slice a7 2 c7) (.slice none 0 0)
   have hrow := Rd.row_of_own (F := fun j => T + 2 ≤ j) hown7 rfl (fun j e => by have := (Dt.own_lt hown7 j e).1; have := hb6.size; have := hk5.size; omega) (fun p hp => by
    simp only [List.mem_cons, List.not_mem_nil, or_false] at hp
    rcases hp with rfl | rfl
    ·exact Rd.rep_sym _ _ _
    ·exact Dt.Rep.mono (fun j hj _ => by omega) y (Dt.Rep.below hb57 hr5))
   refine ⟨hT7.cell 0 rfl, hR7.there (Nat.le_refl _), ⟨(hT7.keep hks (by omega)).cell 0 rfl, hR7.set6 _ _ _ _ _ _⟩, ?_⟩
   refine Rd.Out.fin (r := RR) (x := Rd.quoteD 4 y) (HK3.out.trans hk7) (R := R) (by omega) (by omega) (Dt.Rep.mono (fun j hj _ => by omega) _ (Rd.rep_row 6 hrow)) (Rd.own_nz hown7) (hst5.below hb57) ?_
   rcases hsay with ⟨e, h1, h2⟩ | ⟨b, c, e, h1, h2, h3⟩
   ·rw [hRES, e] at hRR
    exact .inl ⟨hRR.symm, h1, h2⟩
   ·rw [hRES, e] at hRR
    exact .inr ⟨b, c, hRR.symm, h1, h2, h3⟩
  have hidx : ∀ w, (Instr.index 91 (.agg #[.string ⟨#[113, 117, 111, 116, 101]⟩, .string ⟨#[113, 117, 97, 115, 105, 113, 117, 111, 116, 101]⟩, .string ⟨#[117, 110, 113, 117, 111, 116, 101]⟩, .string ⟨#[117, 110, 113, 117, 111, 116, 101, 45, 115, 112, 108, 105, 99, 105, 110, 103]⟩]) (.int .i64 0)).run Try.prog w = .ok (.string ⟨#[113, 117, 111, 116, 101]⟩) w := fun _ => by kernel_rfl
  have hwr : IntKind.i64.wrap 0 = 0 := by decide
  clear hT3 hR3 hP hpre hpa hRR hR hdo hn hn0 hRES
  go_enter Try.func45, Try.ntmps45
  go_upto_region 3 with fail
  clear p0 hw1 hw3
  refine wp_region_noPanic ?_
  refine wp_region_held_drew (S := fun W => W.cell? ⟨T, 0, none⟩ = some (.int .i64 4)) (by kernel_rfl) HTS.out (fun hHeld => ?_)
  refine wpAnyH_take (i := 1) (oi := ⟨_, _, _, _, _, _⟩) (v := ?_) rfl (by kernel_rfl) (by kernel_rfl) (by kernel_rfl) (fun _ _ _ h => h) (Or.inl ⟨by rfl, ?_⟩) (by assumption) ?_
  rotate_left
  ·intro w hSw
   clear hSw
   go_simp
   try with_reducible rfl
  simp only [Act.put, List.setIfInBounds_toArray, List.set_cons_zero, List.set_cons_succ]
  refine wpAnyH_take (i := 6) (oi := ⟨_, _, _, _, _, _⟩) (v := ?_) rfl (by kernel_rfl) (by kernel_rfl) (by kernel_rfl) (fun _ _ _ h => h) (Or.inl ⟨by rfl, ?_⟩) (by assumption) ?_
  rotate_left
  ·intro w hSw
   clear hSw
   go_simp
   try with_reducible rfl
  simp only [Act.put, List.setIfInBounds_toArray, List.set_cons_zero, List.set_cons_succ]
  refine wpAnyH_take (i := 2) (oi := ⟨_, _, _, _, _, _⟩) (v := .int .i64 4) rfl (by kernel_rfl) (by kernel_rfl) (by kernel_rfl) (fun _ _ _ h => h) (Or.inl ⟨by rfl, ?_⟩) (by assumption) ?_
  ·intro w hSw
   have s0 := hSw
   go_simp
   try with_reducible rfl
  simp only [Act.put, List.setIfInBounds_toArray, List.set_cons_zero, List.set_cons_succ]
  refine wpAnyH_take (i := 3) (oi := ⟨_, _, _, _, _, _⟩) (v := .int .i64 0) rfl (by kernel_rfl) (by kernel_rfl) (by kernel_rfl) (fun _ _ _ h => h) (Or.inl ⟨by rfl, ?_⟩) (by assumption) ?_
  ·intro w hSw
   clear hSw
   go_simp
   try with_reducible rfl
  simp only [Act.put, List.setIfInBounds_toArray, List.set_cons_zero, List.set_cons_succ]
  refine wpAnyH_ready (rs := [0]) (by kernel_rfl) (by simp) ?_
  refine AllReadyH.cons (o := ⟨_, _, _, _, _, _⟩) rfl (fun K hK => ?_) AllReadyH.nil
  go_simp
  refine (signs_any _).mono ?_
  rintro e w4 ⟨rfl, hb4⟩
  have HB4 : Hid (Below w3.heap.size w3 w4) := HBD.out.trans hb4
  clear hb4
  dsimp only
  refine hK.out _ _ ?_ (fun hHeld => ?_)
  ·exact HTK.out _ HB4.out
  clear hK K
  try simp only [Act.put, List.setIfInBounds_toArray, List.set_cons_zero, List.set_cons_succ]
  refine wpAnyH_take (i := 4) (oi := ⟨_, _, _, _, _, _⟩) (v := .string ⟨#[113, 117, 111, 116, 101]⟩) rfl (by kernel_rfl) (by kernel_rfl) (by kernel_rfl) (fun _ _ _ h => h) (Or.inl ⟨by rfl, ?_⟩) (by assumption) ?_
  ·intro w hSw
   clear hSw
   have i0 := hidx w
   go_simp
   try with_reducible rfl
  simp only [Act.put, List.setIfInBounds_toArray, List.set_cons_zero, List.set_cons_succ]
  refine wpAnyH_take (i := 5) (oi := ⟨_, _, _, _, _, _⟩) (v := ?_) rfl (by kernel_rfl) (by kernel_rfl) (by kernel_rfl) (fun _ _ _ h => h) (Or.inl ⟨by rfl, ?_⟩) (by assumption) ?_
  rotate_left
  ·intro w hSw
   clear hSw
   go_simp
   try with_reducible rfl
  simp only [Act.put, List.setIfInBounds_toArray, List.set_cons_zero, List.set_cons_succ]
  refine wpAnyH_ready (rs := [7]) (by kernel_rfl) (by simp) ?_
  refine AllReadyH.cons (o := ⟨_, _, _, _, _, _⟩) rfl (fun K hK => ?_) AllReadyH.nil
  go_simp
  refine (HCALL.out _ HB4.out).mono ?_
  rintro e w5 ⟨y, vm, vl, vt, rest, a2, e2, rfl, hr5, -, hst5, hk5, hsay⟩
  obtain ⟨b1, m1, p1, b2, m2, p2, b3, m3, p3, rfl, rfl, rfl⟩ := hr5.forms
  have HK5 : Hid (Keep (fun j => j = P) w3 w5) := (keep_of_below HB4.out).trans hk5
  have HR5 : Hid (Dt.Rep (fun j => w3.heap.size ≤ j) w5 y (.slice b1 m1 p1) (.slice b2 m2 p2) (.slice b3 m3 p3)) := Dt.Rep.mono (fun j hj _ => Nat.le_trans HB4.out.size hj) y hr5
  have HST5 := Lib.hid hst5
  have HSAY := Lib.hid hsay
  clear hr5 hst5 hk5 hsay
  dsimp only
  refine hK.out _ _ ?_ (fun hHeld => ?_)
  ·exact HTK2.out _ HK5.out
  clear hK K
  try simp only [Act.put, List.setIfInBounds_toArray, List.set_cons_zero, List.set_cons_succ]
  refine wpAnyH_ready (rs := [8]) (by kernel_rfl) (by simp) ?_
  refine AllReadyH.cons (o := ⟨_, _, _, _, _, _⟩) rfl (fun K hK => ?_) AllReadyH.nil
  go_simp
  obtain ⟨w6, hw6⟩ : ∃ w6, w5.alloc (.cells #[.int .i64 5, .int .i64 0, .string ⟨#[113, 117, 111, 116, 101]⟩, .slice none 0 0, .slice none 0 0, .slice none 0 0, .int .i64 y.k, .int .i64 y.n, .string y.s, .slice b1 m1 p1, .slice b2 m2 p2, .slice b3 m3 p3] 25) = w6 := ⟨_, rfl⟩
  rw [hw6]
  have HB6 := Lib.hid (new_below hw6)
  have HP6 := Lib.hid (Hp.new hw6)
  clear hw6
  refine hK.out _ _ ?_ (fun hHeld => ?_)
  ·exact HTK2.out _ (HK5.out.trans (keep_of_below HB6.out.1))
  clear hK K
  try simp only [Act.put, List.setIfInBounds_toArray, List.set_cons_zero, List.set_cons_succ]
  refine wpAnyH_ready (rs := [9]) (by kernel_rfl) (by simp) ?_
  refine AllReadyH.cons (o := ⟨_, _, _, _, _, _⟩) rfl (fun K hK => ?_) AllReadyH.nil
  go_simp
  refine (dataList_any w5.heap.size 2 2 [Dt.P.mk (Rd.symD (Rd.sgn 4)) (.slice none 0 0) (.slice none 0 0) (.slice none 0 0), Dt.P.mk y (.slice b1 m1 p1) (.slice b2 m2 p2) (.slice b3 m3 p3)] _ (Rd.two_src (y := y) HP6.out) rfl (by decide) (Rd.flatP_one _ (fun p hp => Rd.two_forms hp))).mono ?_
  rintro e w7 ⟨a7, c7, rfl, hown7, hb7⟩
  obtain ⟨g1, g2, g3, g4⟩ := HFIN.out w5 w6 w7 y b1 b2 b3 m1 m2 m3 p1 p2 p3 a7 c7 rest a2 e2 HK5.out HR5.out HST5.out HSAY.out HB6.out.1 hown7 hb7
  obtain ⟨w9, hw9⟩ : ∃ w9, set6 w7 R (.int .i64 6) (.int .i64 0) (.string ⟨#[]⟩) (.slice none 0 0) (.slice a7 2 c7) (.slice none 0 0) = w9 := ⟨_, rfl⟩
  rw [hw9] at g3 g4
  have HTH := Lib.hid g2
  have HG1 := Lib.hid g1
  have HG3 : Hid (w9.cell? ⟨T, 0, none⟩ = some (.int .i64 4)) := g3.1
  have HE := Lib.hid g4
  have HW9 := Lib.hid hw9
  have e0 := g3.2.cell 0 rfl
  have e1 := g3.2.cell 1 rfl
  have e2' := g3.2.cell 2 rfl
  have e3 := g3.2.cell 3 rfl
  have e4 := g3.2.cell 4 rfl
  have e5 := g3.2.cell 5 rfl
  clear hown7 hb7 g1 g2 g3 g4 hw9
  dsimp only
  refine hK.out _ _ ?_ (fun hHeld => ?_)
  ·exact HG1.out
  clear hK K
  try simp only [Act.put, List.setIfInBounds_toArray, List.set_cons_zero, List.set_cons_succ]
  refine wpAnyH_ready (rs := [10]) (by kernel_rfl) (by simp) ?_
  refine AllReadyH.cons (o := ⟨_, _, _, _, _, _⟩) rfl (fun K hK => ?_) AllReadyH.nil
  refine wp_store_mid _ _ _ rfl R 0 #[.int .i64 6, .int .i64 0, .string ⟨#[]⟩, .slice none 0 0, .slice a7 2 c7, .slice none 0 0] rfl rfl HTH.out HINF.out (by simp [Value.oneCell']) ?_
  rw [setCells6, HW9.out]
  refine hK.out _ _ ?_ (fun hHeld => ?_)
  ·exact HG3.out
  clear hK K
  try simp only [Act.put]
  refine wpAnyH_done (by kernel_rfl) ?_ _
  refine NoPanic.normal ?_
  go_wp2
  refine bodyPost_ret (v := .agg #[.int .i64 6, .int .i64 0, .string ⟨#[]⟩, .slice none 0 0, .slice a7 2 c7, .slice none 0 0]) (by simp [results, Try.results45, go_sem, *]) rfl ?_
  exact HE.out
set_option maxRecDepth 100000 in
set_option maxHeartbeats 16000000 in
theorem quote_5 (P tb C : Nat) (xs : List Lx.PTok) (hG : Rd.G P tb C xs) (F : Nat) (hD : ∀ g, g < F → Rd.DatumIs P tb C xs g) (ta : Nat) (tz tn : Int) (ts : ByteArray) (r : List Lx.PTok) (w : World) (hSrc : Rd.Src w tb xs) (hSt : Rd.St w P tb C xs r 0 0) (hR : Rd.pq F ta 5 r ≠ .out) :
  Calls Try.prog 45 #[.pointer (some ⟨P, 0, none⟩), .agg #[.int .i64 5, .int .i64 (ta : Int), .int .i64 tz, .int .i64 tn, .string ts]] w (Rd.Out P tb C xs w (Rd.pq F ta 5 r)) := by
 obtain ⟨RR, hRR⟩ : ∃ RR, Rd.pq F ta 5 r = RR := ⟨_, rfl⟩
 rw [hRR] at hR ⊢
 obtain ⟨q, rfl⟩ : ∃ q, F = q + 1 := by
  cases F with
  | zero => rw [Rd.pq] at hRR; exact absurd hRR.symm hR
  | succ q => exact ⟨q, rfl⟩
 obtain ⟨w1, hw1⟩ : ∃ w1, w.alloc (.cells #[.int .i64 5, .int .i64 (ta : Int), .int .i64 tz, .int .i64 tn, .string ts] 47) = w1 := ⟨_, rfl⟩
 obtain ⟨w3, hw3⟩ : ∃ w3, w1.alloc (.cells #[.int .i64 0, .int .i64 0, .string ⟨#[]⟩, .slice none 0 0, .slice none 0 0, .slice none 0 0] 25) = w3 := ⟨_, rfl⟩
 obtain ⟨hb1, hs1⟩ := new_below hw1
 obtain ⟨hb3, hs3⟩ := new_below hw3
 have hT3 := (Hp.new hw1).below hb3
 have hR3 := Hp.new hw3
 have hb13 := hb1.trans (hb3.mono hb1.size)
 obtain ⟨T, hT⟩ : ∃ T, w.heap.size = T := ⟨_, rfl⟩
 obtain ⟨R, hRb⟩ : ∃ R, w1.heap.size = R := ⟨_, rfl⟩
 rw [hT] at hT3 hs1
 rw [hRb] at hR3 hs1 hs3
 have hPl := hSt.lt
 rw [hT] at hPl
 have HN : Hid (P < T ∧ R = T + 1 ∧ w3.heap.size = T + 2 ∧ w.heap.size = T) := ⟨hPl, hs1, by omega, hT⟩
 have hst3 := hSt.below hb13
 have HST3 := Lib.hid hst3
 have HSRC3 := Lib.hid (hSrc.below hb13)
 have HT3 := Lib.hid hT3
 have HR3 := Lib.hid hR3
 have HK3 : Hid (Keep (fun k => k = P) w w3) := keep_of_below hb13
 have HG := Lib.hid hG
 have HD := Lib.hid hD
 obtain ⟨pa, pre, hP, hpre, hpa⟩ := hst3
 have p0 := hP.cell 0 rfl
 clear hb1 hb3 hs1 hs3 hb13 hSt hSrc hG hD hPl
 cases r with
 | nil =>
  rw [Rd.pq] at hRR
  have HRR := Lib.hid hRR
  have hf := fail_any P tb C xs [] (ta : Int) 41 w3 HST3.out
  have y1 := hT3.cell 1 rfl
  rw [List.length_nil] at p0
  clear hT3 hR3 hP hpre hpa hRR hR
  go_enter Try.func45, Try.ntmps45
  go_wp2_with fail
  refine hf.mono ?_
  rintro e w4 ⟨rfl, hst4, hk4⟩
  unfold Rd.zeroD
  have hR4 := HR3.out.keep hk4 (by have := HN.out; omega)
  have HE := Lib.hid (Rd.Out.fin (r := RR) (x := .mk 0 0 ⟨#[]⟩ [] [] []) (HK3.out.trans hk4) (R := R) (by have := HN.out; omega) (by have := HN.out; omega) (Rd.rep_zero _ _) (.inl rfl) hst4 (.inr ⟨ta, 41, HRR.out.symm, rfl, rfl, by decide⟩))
  have r0 := hR4.cell 0 rfl
  have r1 := hR4.cell 1 rfl
  have r2 := hR4.cell 2 rfl
  have r3 := hR4.cell 3 rfl
  have r4 := hR4.cell 4 rfl
  have r5 := hR4.cell 5 rfl
  have k0 := hR4.frz 0
  have k1 := hR4.frz 1
  have k2 := hR4.frz 2
  have k3 := hR4.frz 3
  have k4 := hR4.frz 4
  have k5 := hR4.frz 5
  clear hf hst4 hk4 hR4 p0 y1 hw1 hw3
  go_wp2
  refine bodyPost_ret (v := .agg #[.int .i64 0, .int .i64 0, .string ⟨#[]⟩, .slice none 0 0, .slice none 0 0, .slice none 0 0]) (by simp [results, Try.results45, go_sem, *]) rfl ?_
  exact HE.out
 | cons x us =>
  rw [Rd.pq] at hRR
  have hdo : Rd.pd q (x :: us) ≠ .out := fun e => by rw [e] at hRR; exact hR hRR.symm
  obtain ⟨RES, hRES⟩ : ∃ RES, Rd.pd q (x :: us) = RES := ⟨_, rfl⟩
  have HCALL : Hid (∀ W, Below w3.heap.size w3 W → Calls Try.prog 28 #[.pointer (some ⟨P, 0, none⟩)] W (Rd.Out P tb C xs W RES)) := fun W hW => by
   rw [← hRES]
   exact HD.out q (by omega) (x :: us) W (by simp) (HSRC3.out.below hW) (HST3.out.below hW) hdo
  have hn0 : ((((x :: us).length : Nat) : Int) == 0) = false := by simp; omega
  rw [show (x :: us).length = us.length + 1 from rfl] at p0 hn0
  obtain ⟨n, hn⟩ : ∃ n, us.length = n := ⟨_, rfl⟩
  rw [hn] at p0 hn0
  have hn0' : (((n : Int) + 1) == 0) = false := by simp; omega
  have HBD : Hid (Below w3.heap.size w3 w3.drew) := (Below.refl _ w3).drew
  have HTS : Hid (w3.drew.cell? ⟨T, 0, none⟩ = some (.int .i64 5)) := hT3.cell 0 rfl
  have HTK : Hid (∀ W, Below w3.heap.size w3 W → W.cell? ⟨T, 0, none⟩ = some (.int .i64 5)) := fun W hW => (HT3.out.below hW).cell 0 rfl
  have HTK2 : Hid (∀ W, Keep (fun j => j = P) w3 W → W.cell? ⟨T, 0, none⟩ = some (.int .i64 5)) := fun W hW => (HT3.out.keep hW (by have := HN.out; omega)).cell 0 rfl
  have HINF : Hid ((Try.prog.info? 25).map (·.size) = some 6) := by show _ = _; kernel_rfl
  have HFIN : Hid (∀ (w5 w6 w7 : World) (y : Dt.D) (b1 b2 b3 : Option Addr) (m1 m2 m3 p1 p2 p3 : Nat) (a7 : Option Addr) (c7 : Nat) (rest : List Lx.PTok) (a2 e2 : Int), Keep (fun j => j = P) w3 w5 → Dt.Rep (fun j => w3.heap.size ≤ j) w5 y (.slice b1 m1 p1) (.slice b2 m2 p2) (.slice b3 m3 p3) → Rd.St w5 P tb C xs rest a2 e2 → Rd.Says RES y rest a2 e2 → Below w5.heap.size w5 w6 → w7.ownsRow w6.heap.size 25 6 (.slice a7 2 c7) 2 (Dt.flatP [Dt.P.mk (Rd.symD (Rd.sgn 5)) (.slice none 0 0) (.slice none 0 0) (.slice none 0 0), Dt.P.mk y (.slice b1 m1 p1) (.slice b2 m2 p2) (.slice b3 m3 p3)]) → Below w6.heap.size w6 w7 →
    w7.cell? ⟨T, 0, none⟩ = some (.int .i64 5) ∧ w7.there R 0 6 ∧ ((set6 w7 R (.int .i64 6) (.int .i64 0) (.string ⟨#[]⟩) (.slice none 0 0) (.slice a7 2 c7) (.slice none 0 0)).cell? ⟨T, 0, none⟩ = some (.int .i64 5) ∧ Hp (set6 w7 R (.int .i64 6) (.int .i64 0) (.string ⟨#[]⟩) (.slice none 0 0) (.slice a7 2 c7) (.slice none 0 0)) R #[.int .i64 6, .int .i64 0, .string ⟨#[]⟩, .slice none 0 0, .slice a7 2 c7, .slice none 0 0] 25) ∧
    Rd.Out P tb C xs w RR (.returned (.agg #[.int .i64 6, .int .i64 0, .string ⟨#[]⟩, .slice none 0 0, .slice a7 2 c7, .slice none 0 0])) (set6 w7 R (.int .i64 6) (.int .i64 0) (.string ⟨#[]⟩) (.slice none 0 0) (.slice a7 2 c7) (.slice none 0 0))) := by
   intro w5 w6 w7 y b1 b2 b3 m1 m2 m3 p1 p2 p3 a7 c7 rest a2 e2 hk5 hr5 hst5 hsay hb6 hown7 hb7
   have hN := HN.out
   have hb57 := hb6.trans (hb7.mono hb6.size)
   have hk7 := hk5.trans (keep_of_below hb57)
   have hT7 := HT3.out.keep hk7 (by omega)
   have hR7 := HR3.out.keep hk7 (by omega)
   have hks := set6_keep w7 R (.int .i64 6) (.int .i64 0) (.string ⟨#[]⟩) (.slice none 0 0) (.slice a7 2 c7) (.slice none 0 0)
   have hrow := Rd.row_of_own (F := fun j => T + 2 ≤ j) hown7 rfl (fun j e => by have := (Dt.own_lt hown7 j e).1; have := hb6.size; have := hk5.size; omega) (fun p hp => by
    simp only [List.mem_cons, List.not_mem_nil, or_false] at hp
    rcases hp with rfl | rfl
    ·exact Rd.rep_sym _ _ _
    ·exact Dt.Rep.mono (fun j hj _ => by omega) y (Dt.Rep.below hb57 hr5))
   refine ⟨hT7.cell 0 rfl, hR7.there (Nat.le_refl _), ⟨(hT7.keep hks (by omega)).cell 0 rfl, hR7.set6 _ _ _ _ _ _⟩, ?_⟩
   refine Rd.Out.fin (r := RR) (x := Rd.quoteD 5 y) (HK3.out.trans hk7) (R := R) (by omega) (by omega) (Dt.Rep.mono (fun j hj _ => by omega) _ (Rd.rep_row 6 hrow)) (Rd.own_nz hown7) (hst5.below hb57) ?_
   rcases hsay with ⟨e, h1, h2⟩ | ⟨b, c, e, h1, h2, h3⟩
   ·rw [hRES, e] at hRR
    exact .inl ⟨hRR.symm, h1, h2⟩
   ·rw [hRES, e] at hRR
    exact .inr ⟨b, c, hRR.symm, h1, h2, h3⟩
  have hidx : ∀ w, (Instr.index 91 (.agg #[.string ⟨#[113, 117, 111, 116, 101]⟩, .string ⟨#[113, 117, 97, 115, 105, 113, 117, 111, 116, 101]⟩, .string ⟨#[117, 110, 113, 117, 111, 116, 101]⟩, .string ⟨#[117, 110, 113, 117, 111, 116, 101, 45, 115, 112, 108, 105, 99, 105, 110, 103]⟩]) (.int .i64 1)).run Try.prog w = .ok (.string ⟨#[113, 117, 97, 115, 105, 113, 117, 111, 116, 101]⟩) w := fun _ => by kernel_rfl
  have hwr : IntKind.i64.wrap 1 = 1 := by decide
  clear hT3 hR3 hP hpre hpa hRR hR hdo hn hn0 hRES
  go_enter Try.func45, Try.ntmps45
  go_upto_region 3 with fail
  clear p0 hw1 hw3
  refine wp_region_noPanic ?_
  refine wp_region_held_drew (S := fun W => W.cell? ⟨T, 0, none⟩ = some (.int .i64 5)) (by kernel_rfl) HTS.out (fun hHeld => ?_)
  refine wpAnyH_take (i := 1) (oi := ⟨_, _, _, _, _, _⟩) (v := ?_) rfl (by kernel_rfl) (by kernel_rfl) (by kernel_rfl) (fun _ _ _ h => h) (Or.inl ⟨by rfl, ?_⟩) (by assumption) ?_
  rotate_left
  ·intro w hSw
   clear hSw
   go_simp
   try with_reducible rfl
  simp only [Act.put, List.setIfInBounds_toArray, List.set_cons_zero, List.set_cons_succ]
  refine wpAnyH_take (i := 6) (oi := ⟨_, _, _, _, _, _⟩) (v := ?_) rfl (by kernel_rfl) (by kernel_rfl) (by kernel_rfl) (fun _ _ _ h => h) (Or.inl ⟨by rfl, ?_⟩) (by assumption) ?_
  rotate_left
  ·intro w hSw
   clear hSw
   go_simp
   try with_reducible rfl
  simp only [Act.put, List.setIfInBounds_toArray, List.set_cons_zero, List.set_cons_succ]
  refine wpAnyH_take (i := 2) (oi := ⟨_, _, _, _, _, _⟩) (v := .int .i64 5) rfl (by kernel_rfl) (by kernel_rfl) (by kernel_rfl) (fun _ _ _ h => h) (Or.inl ⟨by rfl, ?_⟩) (by assumption) ?_
  ·intro w hSw
   have s0 := hSw
   go_simp
   try with_reducible rfl
  simp only [Act.put, List.setIfInBounds_toArray, List.set_cons_zero, List.set_cons_succ]
  refine wpAnyH_take (i := 3) (oi := ⟨_, _, _, _, _, _⟩) (v := .int .i64 1) rfl (by kernel_rfl) (by kernel_rfl) (by kernel_rfl) (fun _ _ _ h => h) (Or.inl ⟨by rfl, ?_⟩) (by assumption) ?_
  ·intro w hSw
   clear hSw
   go_simp
   try with_reducible rfl
  simp only [Act.put, List.setIfInBounds_toArray, List.set_cons_zero, List.set_cons_succ]
  refine wpAnyH_ready (rs := [0]) (by kernel_rfl) (by simp) ?_
  refine AllReadyH.cons (o := ⟨_, _, _, _, _, _⟩) rfl (fun K hK => ?_) AllReadyH.nil
  go_simp
  refine (signs_any _).mono ?_
  rintro e w4 ⟨rfl, hb4⟩
  have HB4 : Hid (Below w3.heap.size w3 w4) := HBD.out.trans hb4
  clear hb4
  dsimp only
  refine hK.out _ _ ?_ (fun hHeld => ?_)
  ·exact HTK.out _ HB4.out
  clear hK K
  try simp only [Act.put, List.setIfInBounds_toArray, List.set_cons_zero, List.set_cons_succ]
  refine wpAnyH_take (i := 4) (oi := ⟨_, _, _, _, _, _⟩) (v := .string ⟨#[113, 117, 97, 115, 105, 113, 117, 111, 116, 101]⟩) rfl (by kernel_rfl) (by kernel_rfl) (by kernel_rfl) (fun _ _ _ h => h) (Or.inl ⟨by rfl, ?_⟩) (by assumption) ?_
  ·intro w hSw
   clear hSw
   have i0 := hidx w
   go_simp
   try with_reducible rfl
  simp only [Act.put, List.setIfInBounds_toArray, List.set_cons_zero, List.set_cons_succ]
  refine wpAnyH_take (i := 5) (oi := ⟨_, _, _, _, _, _⟩) (v := ?_) rfl (by kernel_rfl) (by kernel_rfl) (by kernel_rfl) (fun _ _ _ h => h) (Or.inl ⟨by rfl, ?_⟩) (by assumption) ?_
  rotate_left
  ·intro w hSw
   clear hSw
   go_simp
   try with_reducible rfl
  simp only [Act.put, List.setIfInBounds_toArray, List.set_cons_zero, List.set_cons_succ]
  refine wpAnyH_ready (rs := [7]) (by kernel_rfl) (by simp) ?_
  refine AllReadyH.cons (o := ⟨_, _, _, _, _, _⟩) rfl (fun K hK => ?_) AllReadyH.nil
  go_simp
  refine (HCALL.out _ HB4.out).mono ?_
  rintro e w5 ⟨y, vm, vl, vt, rest, a2, e2, rfl, hr5, -, hst5, hk5, hsay⟩
  obtain ⟨b1, m1, p1, b2, m2, p2, b3, m3, p3, rfl, rfl, rfl⟩ := hr5.forms
  have HK5 : Hid (Keep (fun j => j = P) w3 w5) := (keep_of_below HB4.out).trans hk5
  have HR5 : Hid (Dt.Rep (fun j => w3.heap.size ≤ j) w5 y (.slice b1 m1 p1) (.slice b2 m2 p2) (.slice b3 m3 p3)) := Dt.Rep.mono (fun j hj _ => Nat.le_trans HB4.out.size hj) y hr5
  have HST5 := Lib.hid hst5
  have HSAY := Lib.hid hsay
  clear hr5 hst5 hk5 hsay
  dsimp only
  refine hK.out _ _ ?_ (fun hHeld => ?_)
  ·exact HTK2.out _ HK5.out
  clear hK K
  try simp only [Act.put, List.setIfInBounds_toArray, List.set_cons_zero, List.set_cons_succ]
  refine wpAnyH_ready (rs := [8]) (by kernel_rfl) (by simp) ?_
  refine AllReadyH.cons (o := ⟨_, _, _, _, _, _⟩) rfl (fun K hK => ?_) AllReadyH.nil
  go_simp
  obtain ⟨w6, hw6⟩ : ∃ w6, w5.alloc (.cells #[.int .i64 5, .int .i64 0, .string ⟨#[113, 117, 97, 115, 105, 113, 117, 111, 116, 101]⟩, .slice none 0 0, .slice none 0 0, .slice none 0 0, .int .i64 y.k, .int .i64 y.n, .string y.s, .slice b1 m1 p1, .slice b2 m2 p2, .slice b3 m3 p3] 25) = w6 := ⟨_, rfl⟩
  rw [hw6]
  have HB6 := Lib.hid (new_below hw6)
  have HP6 := Lib.hid (Hp.new hw6)
  clear hw6
  refine hK.out _ _ ?_ (fun hHeld => ?_)
  ·exact HTK2.out _ (HK5.out.trans (keep_of_below HB6.out.1))
  clear hK K
  try simp only [Act.put, List.setIfInBounds_toArray, List.set_cons_zero, List.set_cons_succ]
  refine wpAnyH_ready (rs := [9]) (by kernel_rfl) (by simp) ?_
  refine AllReadyH.cons (o := ⟨_, _, _, _, _, _⟩) rfl (fun K hK => ?_) AllReadyH.nil
  go_simp
  refine (dataList_any w5.heap.size 2 2 [Dt.P.mk (Rd.symD (Rd.sgn 5)) (.slice none 0 0) (.slice none 0 0) (.slice none 0 0), Dt.P.mk y (.slice b1 m1 p1) (.slice b2 m2 p2) (.slice b3 m3 p3)] _ (Rd.two_src (y := y) HP6.out) rfl (by decide) (Rd.flatP_one _ (fun p hp => Rd.two_forms hp))).mono ?_
  rintro e w7 ⟨a7, c7, rfl, hown7, hb7⟩
  obtain ⟨g1, g2, g3, g4⟩ := HFIN.out w5 w6 w7 y b1 b2 b3 m1 m2 m3 p1 p2 p3 a7 c7 rest a2 e2 HK5.out HR5.out HST5.out HSAY.out HB6.out.1 hown7 hb7
  obtain ⟨w9, hw9⟩ : ∃ w9, set6 w7 R (.int .i64 6) (.int .i64 0) (.string ⟨#[]⟩) (.slice none 0 0) (.slice a7 2 c7) (.slice none 0 0) = w9 := ⟨_, rfl⟩
  rw [hw9] at g3 g4
  have HTH := Lib.hid g2
  have HG1 := Lib.hid g1
  have HG3 : Hid (w9.cell? ⟨T, 0, none⟩ = some (.int .i64 5)) := g3.1
  have HE := Lib.hid g4
  have HW9 := Lib.hid hw9
  have e0 := g3.2.cell 0 rfl
  have e1 := g3.2.cell 1 rfl
  have e2' := g3.2.cell 2 rfl
  have e3 := g3.2.cell 3 rfl
  have e4 := g3.2.cell 4 rfl
  have e5 := g3.2.cell 5 rfl
  clear hown7 hb7 g1 g2 g3 g4 hw9
  dsimp only
  refine hK.out _ _ ?_ (fun hHeld => ?_)
  ·exact HG1.out
  clear hK K
  try simp only [Act.put, List.setIfInBounds_toArray, List.set_cons_zero, List.set_cons_succ]
  refine wpAnyH_ready (rs := [10]) (by kernel_rfl) (by simp) ?_
  refine AllReadyH.cons (o := ⟨_, _, _, _, _, _⟩) rfl (fun K hK => ?_) AllReadyH.nil
  refine wp_store_mid _ _ _ rfl R 0 #[.int .i64 6, .int .i64 0, .string ⟨#[]⟩, .slice none 0 0, .slice a7 2 c7, .slice none 0 0] rfl rfl HTH.out HINF.out (by simp [Value.oneCell']) ?_
  rw [setCells6, HW9.out]
  refine hK.out _ _ ?_ (fun hHeld => ?_)
  ·exact HG3.out
  clear hK K
  try simp only [Act.put]
  refine wpAnyH_done (by kernel_rfl) ?_ _
  refine NoPanic.normal ?_
  go_wp2
  refine bodyPost_ret (v := .agg #[.int .i64 6, .int .i64 0, .string ⟨#[]⟩, .slice none 0 0, .slice a7 2 c7, .slice none 0 0]) (by simp [results, Try.results45, go_sem, *]) rfl ?_
  exact HE.out
set_option maxRecDepth 100000 in
set_option maxHeartbeats 16000000 in
theorem quote_6 (P tb C : Nat) (xs : List Lx.PTok) (hG : Rd.G P tb C xs) (F : Nat) (hD : ∀ g, g < F → Rd.DatumIs P tb C xs g) (ta : Nat) (tz tn : Int) (ts : ByteArray) (r : List Lx.PTok) (w : World) (hSrc : Rd.Src w tb xs) (hSt : Rd.St w P tb C xs r 0 0) (hR : Rd.pq F ta 6 r ≠ .out) :
  Calls Try.prog 45 #[.pointer (some ⟨P, 0, none⟩), .agg #[.int .i64 6, .int .i64 (ta : Int), .int .i64 tz, .int .i64 tn, .string ts]] w (Rd.Out P tb C xs w (Rd.pq F ta 6 r)) := by
 obtain ⟨RR, hRR⟩ : ∃ RR, Rd.pq F ta 6 r = RR := ⟨_, rfl⟩
 rw [hRR] at hR ⊢
 obtain ⟨q, rfl⟩ : ∃ q, F = q + 1 := by
  cases F with
  | zero => rw [Rd.pq] at hRR; exact absurd hRR.symm hR
  | succ q => exact ⟨q, rfl⟩
 obtain ⟨w1, hw1⟩ : ∃ w1, w.alloc (.cells #[.int .i64 6, .int .i64 (ta : Int), .int .i64 tz, .int .i64 tn, .string ts] 47) = w1 := ⟨_, rfl⟩
 obtain ⟨w3, hw3⟩ : ∃ w3, w1.alloc (.cells #[.int .i64 0, .int .i64 0, .string ⟨#[]⟩, .slice none 0 0, .slice none 0 0, .slice none 0 0] 25) = w3 := ⟨_, rfl⟩
 obtain ⟨hb1, hs1⟩ := new_below hw1
 obtain ⟨hb3, hs3⟩ := new_below hw3
 have hT3 := (Hp.new hw1).below hb3
 have hR3 := Hp.new hw3
 have hb13 := hb1.trans (hb3.mono hb1.size)
 obtain ⟨T, hT⟩ : ∃ T, w.heap.size = T := ⟨_, rfl⟩
 obtain ⟨R, hRb⟩ : ∃ R, w1.heap.size = R := ⟨_, rfl⟩
 rw [hT] at hT3 hs1
 rw [hRb] at hR3 hs1 hs3
 have hPl := hSt.lt
 rw [hT] at hPl
 have HN : Hid (P < T ∧ R = T + 1 ∧ w3.heap.size = T + 2 ∧ w.heap.size = T) := ⟨hPl, hs1, by omega, hT⟩
 have hst3 := hSt.below hb13
 have HST3 := Lib.hid hst3
 have HSRC3 := Lib.hid (hSrc.below hb13)
 have HT3 := Lib.hid hT3
 have HR3 := Lib.hid hR3
 have HK3 : Hid (Keep (fun k => k = P) w w3) := keep_of_below hb13
 have HG := Lib.hid hG
 have HD := Lib.hid hD
 obtain ⟨pa, pre, hP, hpre, hpa⟩ := hst3
 have p0 := hP.cell 0 rfl
 clear hb1 hb3 hs1 hs3 hb13 hSt hSrc hG hD hPl
 cases r with
 | nil =>
  rw [Rd.pq] at hRR
  have HRR := Lib.hid hRR
  have hf := fail_any P tb C xs [] (ta : Int) 41 w3 HST3.out
  have y1 := hT3.cell 1 rfl
  rw [List.length_nil] at p0
  clear hT3 hR3 hP hpre hpa hRR hR
  go_enter Try.func45, Try.ntmps45
  go_wp2_with fail
  refine hf.mono ?_
  rintro e w4 ⟨rfl, hst4, hk4⟩
  unfold Rd.zeroD
  have hR4 := HR3.out.keep hk4 (by have := HN.out; omega)
  have HE := Lib.hid (Rd.Out.fin (r := RR) (x := .mk 0 0 ⟨#[]⟩ [] [] []) (HK3.out.trans hk4) (R := R) (by have := HN.out; omega) (by have := HN.out; omega) (Rd.rep_zero _ _) (.inl rfl) hst4 (.inr ⟨ta, 41, HRR.out.symm, rfl, rfl, by decide⟩))
  have r0 := hR4.cell 0 rfl
  have r1 := hR4.cell 1 rfl
  have r2 := hR4.cell 2 rfl
  have r3 := hR4.cell 3 rfl
  have r4 := hR4.cell 4 rfl
  have r5 := hR4.cell 5 rfl
  have k0 := hR4.frz 0
  have k1 := hR4.frz 1
  have k2 := hR4.frz 2
  have k3 := hR4.frz 3
  have k4 := hR4.frz 4
  have k5 := hR4.frz 5
  clear hf hst4 hk4 hR4 p0 y1 hw1 hw3
  go_wp2
  refine bodyPost_ret (v := .agg #[.int .i64 0, .int .i64 0, .string ⟨#[]⟩, .slice none 0 0, .slice none 0 0, .slice none 0 0]) (by simp [results, Try.results45, go_sem, *]) rfl ?_
  exact HE.out
 | cons x us =>
  rw [Rd.pq] at hRR
  have hdo : Rd.pd q (x :: us) ≠ .out := fun e => by rw [e] at hRR; exact hR hRR.symm
  obtain ⟨RES, hRES⟩ : ∃ RES, Rd.pd q (x :: us) = RES := ⟨_, rfl⟩
  have HCALL : Hid (∀ W, Below w3.heap.size w3 W → Calls Try.prog 28 #[.pointer (some ⟨P, 0, none⟩)] W (Rd.Out P tb C xs W RES)) := fun W hW => by
   rw [← hRES]
   exact HD.out q (by omega) (x :: us) W (by simp) (HSRC3.out.below hW) (HST3.out.below hW) hdo
  have hn0 : ((((x :: us).length : Nat) : Int) == 0) = false := by simp; omega
  rw [show (x :: us).length = us.length + 1 from rfl] at p0 hn0
  obtain ⟨n, hn⟩ : ∃ n, us.length = n := ⟨_, rfl⟩
  rw [hn] at p0 hn0
  have hn0' : (((n : Int) + 1) == 0) = false := by simp; omega
  have HBD : Hid (Below w3.heap.size w3 w3.drew) := (Below.refl _ w3).drew
  have HTS : Hid (w3.drew.cell? ⟨T, 0, none⟩ = some (.int .i64 6)) := hT3.cell 0 rfl
  have HTK : Hid (∀ W, Below w3.heap.size w3 W → W.cell? ⟨T, 0, none⟩ = some (.int .i64 6)) := fun W hW => (HT3.out.below hW).cell 0 rfl
  have HTK2 : Hid (∀ W, Keep (fun j => j = P) w3 W → W.cell? ⟨T, 0, none⟩ = some (.int .i64 6)) := fun W hW => (HT3.out.keep hW (by have := HN.out; omega)).cell 0 rfl
  have HINF : Hid ((Try.prog.info? 25).map (·.size) = some 6) := by show _ = _; kernel_rfl
  have HFIN : Hid (∀ (w5 w6 w7 : World) (y : Dt.D) (b1 b2 b3 : Option Addr) (m1 m2 m3 p1 p2 p3 : Nat) (a7 : Option Addr) (c7 : Nat) (rest : List Lx.PTok) (a2 e2 : Int), Keep (fun j => j = P) w3 w5 → Dt.Rep (fun j => w3.heap.size ≤ j) w5 y (.slice b1 m1 p1) (.slice b2 m2 p2) (.slice b3 m3 p3) → Rd.St w5 P tb C xs rest a2 e2 → Rd.Says RES y rest a2 e2 → Below w5.heap.size w5 w6 → w7.ownsRow w6.heap.size 25 6 (.slice a7 2 c7) 2 (Dt.flatP [Dt.P.mk (Rd.symD (Rd.sgn 6)) (.slice none 0 0) (.slice none 0 0) (.slice none 0 0), Dt.P.mk y (.slice b1 m1 p1) (.slice b2 m2 p2) (.slice b3 m3 p3)]) → Below w6.heap.size w6 w7 →
    w7.cell? ⟨T, 0, none⟩ = some (.int .i64 6) ∧ w7.there R 0 6 ∧ ((set6 w7 R (.int .i64 6) (.int .i64 0) (.string ⟨#[]⟩) (.slice none 0 0) (.slice a7 2 c7) (.slice none 0 0)).cell? ⟨T, 0, none⟩ = some (.int .i64 6) ∧ Hp (set6 w7 R (.int .i64 6) (.int .i64 0) (.string ⟨#[]⟩) (.slice none 0 0) (.slice a7 2 c7) (.slice none 0 0)) R #[.int .i64 6, .int .i64 0, .string ⟨#[]⟩, .slice none 0 0, .slice a7 2 c7, .slice none 0 0] 25) ∧
    Rd.Out P tb C xs w RR (.returned (.agg #[.int .i64 6, .int .i64 0, .string ⟨#[]⟩, .slice none 0 0, .slice a7 2 c7, .slice none 0 0])) (set6 w7 R (.int .i64 6) (.int .i64 0) (.string ⟨#[]⟩) (.slice none 0 0) (.slice a7 2 c7) (.slice none 0 0))) := by
   intro w5 w6 w7 y b1 b2 b3 m1 m2 m3 p1 p2 p3 a7 c7 rest a2 e2 hk5 hr5 hst5 hsay hb6 hown7 hb7
   have hN := HN.out
   have hb57 := hb6.trans (hb7.mono hb6.size)
   have hk7 := hk5.trans (keep_of_below hb57)
   have hT7 := HT3.out.keep hk7 (by omega)
   have hR7 := HR3.out.keep hk7 (by omega)
   have hks := set6_keep w7 R (.int .i64 6) (.int .i64 0) (.string ⟨#[]⟩) (.slice none 0 0) (.slice a7 2 c7) (.slice none 0 0)
   have hrow := Rd.row_of_own (F := fun j => T + 2 ≤ j) hown7 rfl (fun j e => by have := (Dt.own_lt hown7 j e).1; have := hb6.size; have := hk5.size; omega) (fun p hp => by
    simp only [List.mem_cons, List.not_mem_nil, or_false] at hp
    rcases hp with rfl | rfl
    ·exact Rd.rep_sym _ _ _
    ·exact Dt.Rep.mono (fun j hj _ => by omega) y (Dt.Rep.below hb57 hr5))
   refine ⟨hT7.cell 0 rfl, hR7.there (Nat.le_refl _), ⟨(hT7.keep hks (by omega)).cell 0 rfl, hR7.set6 _ _ _ _ _ _⟩, ?_⟩
   refine Rd.Out.fin (r := RR) (x := Rd.quoteD 6 y) (HK3.out.trans hk7) (R := R) (by omega) (by omega) (Dt.Rep.mono (fun j hj _ => by omega) _ (Rd.rep_row 6 hrow)) (Rd.own_nz hown7) (hst5.below hb57) ?_
   rcases hsay with ⟨e, h1, h2⟩ | ⟨b, c, e, h1, h2, h3⟩
   ·rw [hRES, e] at hRR
    exact .inl ⟨hRR.symm, h1, h2⟩
   ·rw [hRES, e] at hRR
    exact .inr ⟨b, c, hRR.symm, h1, h2, h3⟩
  have hidx : ∀ w, (Instr.index 91 (.agg #[.string ⟨#[113, 117, 111, 116, 101]⟩, .string ⟨#[113, 117, 97, 115, 105, 113, 117, 111, 116, 101]⟩, .string ⟨#[117, 110, 113, 117, 111, 116, 101]⟩, .string ⟨#[117, 110, 113, 117, 111, 116, 101, 45, 115, 112, 108, 105, 99, 105, 110, 103]⟩]) (.int .i64 2)).run Try.prog w = .ok (.string ⟨#[117, 110, 113, 117, 111, 116, 101]⟩) w := fun _ => by kernel_rfl
  have hwr : IntKind.i64.wrap 2 = 2 := by decide
  clear hT3 hR3 hP hpre hpa hRR hR hdo hn hn0 hRES
  go_enter Try.func45, Try.ntmps45
  go_upto_region 3 with fail
  clear p0 hw1 hw3
  refine wp_region_noPanic ?_
  refine wp_region_held_drew (S := fun W => W.cell? ⟨T, 0, none⟩ = some (.int .i64 6)) (by kernel_rfl) HTS.out (fun hHeld => ?_)
  refine wpAnyH_take (i := 1) (oi := ⟨_, _, _, _, _, _⟩) (v := ?_) rfl (by kernel_rfl) (by kernel_rfl) (by kernel_rfl) (fun _ _ _ h => h) (Or.inl ⟨by rfl, ?_⟩) (by assumption) ?_
  rotate_left
  ·intro w hSw
   clear hSw
   go_simp
   try with_reducible rfl
  simp only [Act.put, List.setIfInBounds_toArray, List.set_cons_zero, List.set_cons_succ]
  refine wpAnyH_take (i := 6) (oi := ⟨_, _, _, _, _, _⟩) (v := ?_) rfl (by kernel_rfl) (by kernel_rfl) (by kernel_rfl) (fun _ _ _ h => h) (Or.inl ⟨by rfl, ?_⟩) (by assumption) ?_
  rotate_left
  ·intro w hSw
   clear hSw
   go_simp
   try with_reducible rfl
  simp only [Act.put, List.setIfInBounds_toArray, List.set_cons_zero, List.set_cons_succ]
  refine wpAnyH_take (i := 2) (oi := ⟨_, _, _, _, _, _⟩) (v := .int .i64 6) rfl (by kernel_rfl) (by kernel_rfl) (by kernel_rfl) (fun _ _ _ h => h) (Or.inl ⟨by rfl, ?_⟩) (by assumption) ?_
  ·intro w hSw
   have s0 := hSw
   go_simp
   try with_reducible rfl
  simp only [Act.put, List.setIfInBounds_toArray, List.set_cons_zero, List.set_cons_succ]
  refine wpAnyH_take (i := 3) (oi := ⟨_, _, _, _, _, _⟩) (v := .int .i64 2) rfl (by kernel_rfl) (by kernel_rfl) (by kernel_rfl) (fun _ _ _ h => h) (Or.inl ⟨by rfl, ?_⟩) (by assumption) ?_
  ·intro w hSw
   clear hSw
   go_simp
   try with_reducible rfl
  simp only [Act.put, List.setIfInBounds_toArray, List.set_cons_zero, List.set_cons_succ]
  refine wpAnyH_ready (rs := [0]) (by kernel_rfl) (by simp) ?_
  refine AllReadyH.cons (o := ⟨_, _, _, _, _, _⟩) rfl (fun K hK => ?_) AllReadyH.nil
  go_simp
  refine (signs_any _).mono ?_
  rintro e w4 ⟨rfl, hb4⟩
  have HB4 : Hid (Below w3.heap.size w3 w4) := HBD.out.trans hb4
  clear hb4
  dsimp only
  refine hK.out _ _ ?_ (fun hHeld => ?_)
  ·exact HTK.out _ HB4.out
  clear hK K
  try simp only [Act.put, List.setIfInBounds_toArray, List.set_cons_zero, List.set_cons_succ]
  refine wpAnyH_take (i := 4) (oi := ⟨_, _, _, _, _, _⟩) (v := .string ⟨#[117, 110, 113, 117, 111, 116, 101]⟩) rfl (by kernel_rfl) (by kernel_rfl) (by kernel_rfl) (fun _ _ _ h => h) (Or.inl ⟨by rfl, ?_⟩) (by assumption) ?_
  ·intro w hSw
   clear hSw
   have i0 := hidx w
   go_simp
   try with_reducible rfl
  simp only [Act.put, List.setIfInBounds_toArray, List.set_cons_zero, List.set_cons_succ]
  refine wpAnyH_take (i := 5) (oi := ⟨_, _, _, _, _, _⟩) (v := ?_) rfl (by kernel_rfl) (by kernel_rfl) (by kernel_rfl) (fun _ _ _ h => h) (Or.inl ⟨by rfl, ?_⟩) (by assumption) ?_
  rotate_left
  ·intro w hSw
   clear hSw
   go_simp
   try with_reducible rfl
  simp only [Act.put, List.setIfInBounds_toArray, List.set_cons_zero, List.set_cons_succ]
  refine wpAnyH_ready (rs := [7]) (by kernel_rfl) (by simp) ?_
  refine AllReadyH.cons (o := ⟨_, _, _, _, _, _⟩) rfl (fun K hK => ?_) AllReadyH.nil
  go_simp
  refine (HCALL.out _ HB4.out).mono ?_
  rintro e w5 ⟨y, vm, vl, vt, rest, a2, e2, rfl, hr5, -, hst5, hk5, hsay⟩
  obtain ⟨b1, m1, p1, b2, m2, p2, b3, m3, p3, rfl, rfl, rfl⟩ := hr5.forms
  have HK5 : Hid (Keep (fun j => j = P) w3 w5) := (keep_of_below HB4.out).trans hk5
  have HR5 : Hid (Dt.Rep (fun j => w3.heap.size ≤ j) w5 y (.slice b1 m1 p1) (.slice b2 m2 p2) (.slice b3 m3 p3)) := Dt.Rep.mono (fun j hj _ => Nat.le_trans HB4.out.size hj) y hr5
  have HST5 := Lib.hid hst5
  have HSAY := Lib.hid hsay
  clear hr5 hst5 hk5 hsay
  dsimp only
  refine hK.out _ _ ?_ (fun hHeld => ?_)
  ·exact HTK2.out _ HK5.out
  clear hK K
  try simp only [Act.put, List.setIfInBounds_toArray, List.set_cons_zero, List.set_cons_succ]
  refine wpAnyH_ready (rs := [8]) (by kernel_rfl) (by simp) ?_
  refine AllReadyH.cons (o := ⟨_, _, _, _, _, _⟩) rfl (fun K hK => ?_) AllReadyH.nil
  go_simp
  obtain ⟨w6, hw6⟩ : ∃ w6, w5.alloc (.cells #[.int .i64 5, .int .i64 0, .string ⟨#[117, 110, 113, 117, 111, 116, 101]⟩, .slice none 0 0, .slice none 0 0, .slice none 0 0, .int .i64 y.k, .int .i64 y.n, .string y.s, .slice b1 m1 p1, .slice b2 m2 p2, .slice b3 m3 p3] 25) = w6 := ⟨_, rfl⟩
  rw [hw6]
  have HB6 := Lib.hid (new_below hw6)
  have HP6 := Lib.hid (Hp.new hw6)
  clear hw6
  refine hK.out _ _ ?_ (fun hHeld => ?_)
  ·exact HTK2.out _ (HK5.out.trans (keep_of_below HB6.out.1))
  clear hK K
  try simp only [Act.put, List.setIfInBounds_toArray, List.set_cons_zero, List.set_cons_succ]
  refine wpAnyH_ready (rs := [9]) (by kernel_rfl) (by simp) ?_
  refine AllReadyH.cons (o := ⟨_, _, _, _, _, _⟩) rfl (fun K hK => ?_) AllReadyH.nil
  go_simp
  refine (dataList_any w5.heap.size 2 2 [Dt.P.mk (Rd.symD (Rd.sgn 6)) (.slice none 0 0) (.slice none 0 0) (.slice none 0 0), Dt.P.mk y (.slice b1 m1 p1) (.slice b2 m2 p2) (.slice b3 m3 p3)] _ (Rd.two_src (y := y) HP6.out) rfl (by decide) (Rd.flatP_one _ (fun p hp => Rd.two_forms hp))).mono ?_
  rintro e w7 ⟨a7, c7, rfl, hown7, hb7⟩
  obtain ⟨g1, g2, g3, g4⟩ := HFIN.out w5 w6 w7 y b1 b2 b3 m1 m2 m3 p1 p2 p3 a7 c7 rest a2 e2 HK5.out HR5.out HST5.out HSAY.out HB6.out.1 hown7 hb7
  obtain ⟨w9, hw9⟩ : ∃ w9, set6 w7 R (.int .i64 6) (.int .i64 0) (.string ⟨#[]⟩) (.slice none 0 0) (.slice a7 2 c7) (.slice none 0 0) = w9 := ⟨_, rfl⟩
  rw [hw9] at g3 g4
  have HTH := Lib.hid g2
  have HG1 := Lib.hid g1
  have HG3 : Hid (w9.cell? ⟨T, 0, none⟩ = some (.int .i64 6)) := g3.1
  have HE := Lib.hid g4
  have HW9 := Lib.hid hw9
  have e0 := g3.2.cell 0 rfl
  have e1 := g3.2.cell 1 rfl
  have e2' := g3.2.cell 2 rfl
  have e3 := g3.2.cell 3 rfl
  have e4 := g3.2.cell 4 rfl
  have e5 := g3.2.cell 5 rfl
  clear hown7 hb7 g1 g2 g3 g4 hw9
  dsimp only
  refine hK.out _ _ ?_ (fun hHeld => ?_)
  ·exact HG1.out
  clear hK K
  try simp only [Act.put, List.setIfInBounds_toArray, List.set_cons_zero, List.set_cons_succ]
  refine wpAnyH_ready (rs := [10]) (by kernel_rfl) (by simp) ?_
  refine AllReadyH.cons (o := ⟨_, _, _, _, _, _⟩) rfl (fun K hK => ?_) AllReadyH.nil
  refine wp_store_mid _ _ _ rfl R 0 #[.int .i64 6, .int .i64 0, .string ⟨#[]⟩, .slice none 0 0, .slice a7 2 c7, .slice none 0 0] rfl rfl HTH.out HINF.out (by simp [Value.oneCell']) ?_
  rw [setCells6, HW9.out]
  refine hK.out _ _ ?_ (fun hHeld => ?_)
  ·exact HG3.out
  clear hK K
  try simp only [Act.put]
  refine wpAnyH_done (by kernel_rfl) ?_ _
  refine NoPanic.normal ?_
  go_wp2
  refine bodyPost_ret (v := .agg #[.int .i64 6, .int .i64 0, .string ⟨#[]⟩, .slice none 0 0, .slice a7 2 c7, .slice none 0 0]) (by simp [results, Try.results45, go_sem, *]) rfl ?_
  exact HE.out
set_option maxRecDepth 100000 in
set_option maxHeartbeats 16000000 in
theorem quote_7 (P tb C : Nat) (xs : List Lx.PTok) (hG : Rd.G P tb C xs) (F : Nat) (hD : ∀ g, g < F → Rd.DatumIs P tb C xs g) (ta : Nat) (tz tn : Int) (ts : ByteArray) (r : List Lx.PTok) (w : World) (hSrc : Rd.Src w tb xs) (hSt : Rd.St w P tb C xs r 0 0) (hR : Rd.pq F ta 7 r ≠ .out) :
  Calls Try.prog 45 #[.pointer (some ⟨P, 0, none⟩), .agg #[.int .i64 7, .int .i64 (ta : Int), .int .i64 tz, .int .i64 tn, .string ts]] w (Rd.Out P tb C xs w (Rd.pq F ta 7 r)) := by
 obtain ⟨RR, hRR⟩ : ∃ RR, Rd.pq F ta 7 r = RR := ⟨_, rfl⟩
 rw [hRR] at hR ⊢
 obtain ⟨q, rfl⟩ : ∃ q, F = q + 1 := by
  cases F with
  | zero => rw [Rd.pq] at hRR; exact absurd hRR.symm hR
  | succ q => exact ⟨q, rfl⟩
 obtain ⟨w1, hw1⟩ : ∃ w1, w.alloc (.cells #[.int .i64 7, .int .i64 (ta : Int), .int .i64 tz, .int .i64 tn, .string ts] 47) = w1 := ⟨_, rfl⟩
 obtain ⟨w3, hw3⟩ : ∃ w3, w1.alloc (.cells #[.int .i64 0, .int .i64 0, .string ⟨#[]⟩, .slice none 0 0, .slice none 0 0, .slice none 0 0] 25) = w3 := ⟨_, rfl⟩
 obtain ⟨hb1, hs1⟩ := new_below hw1
 obtain ⟨hb3, hs3⟩ := new_below hw3
 have hT3 := (Hp.new hw1).below hb3
 have hR3 := Hp.new hw3
 have hb13 := hb1.trans (hb3.mono hb1.size)
 obtain ⟨T, hT⟩ : ∃ T, w.heap.size = T := ⟨_, rfl⟩
 obtain ⟨R, hRb⟩ : ∃ R, w1.heap.size = R := ⟨_, rfl⟩
 rw [hT] at hT3 hs1
 rw [hRb] at hR3 hs1 hs3
 have hPl := hSt.lt
 rw [hT] at hPl
 have HN : Hid (P < T ∧ R = T + 1 ∧ w3.heap.size = T + 2 ∧ w.heap.size = T) := ⟨hPl, hs1, by omega, hT⟩
 have hst3 := hSt.below hb13
 have HST3 := Lib.hid hst3
 have HSRC3 := Lib.hid (hSrc.below hb13)
 have HT3 := Lib.hid hT3
 have HR3 := Lib.hid hR3
 have HK3 : Hid (Keep (fun k => k = P) w w3) := keep_of_below hb13
 have HG := Lib.hid hG
 have HD := Lib.hid hD
 obtain ⟨pa, pre, hP, hpre, hpa⟩ := hst3
 have p0 := hP.cell 0 rfl
 clear hb1 hb3 hs1 hs3 hb13 hSt hSrc hG hD hPl
 cases r with
 | nil =>
  rw [Rd.pq] at hRR
  have HRR := Lib.hid hRR
  have hf := fail_any P tb C xs [] (ta : Int) 41 w3 HST3.out
  have y1 := hT3.cell 1 rfl
  rw [List.length_nil] at p0
  clear hT3 hR3 hP hpre hpa hRR hR
  go_enter Try.func45, Try.ntmps45
  go_wp2_with fail
  refine hf.mono ?_
  rintro e w4 ⟨rfl, hst4, hk4⟩
  unfold Rd.zeroD
  have hR4 := HR3.out.keep hk4 (by have := HN.out; omega)
  have HE := Lib.hid (Rd.Out.fin (r := RR) (x := .mk 0 0 ⟨#[]⟩ [] [] []) (HK3.out.trans hk4) (R := R) (by have := HN.out; omega) (by have := HN.out; omega) (Rd.rep_zero _ _) (.inl rfl) hst4 (.inr ⟨ta, 41, HRR.out.symm, rfl, rfl, by decide⟩))
  have r0 := hR4.cell 0 rfl
  have r1 := hR4.cell 1 rfl
  have r2 := hR4.cell 2 rfl
  have r3 := hR4.cell 3 rfl
  have r4 := hR4.cell 4 rfl
  have r5 := hR4.cell 5 rfl
  have k0 := hR4.frz 0
  have k1 := hR4.frz 1
  have k2 := hR4.frz 2
  have k3 := hR4.frz 3
  have k4 := hR4.frz 4
  have k5 := hR4.frz 5
  clear hf hst4 hk4 hR4 p0 y1 hw1 hw3
  go_wp2
  refine bodyPost_ret (v := .agg #[.int .i64 0, .int .i64 0, .string ⟨#[]⟩, .slice none 0 0, .slice none 0 0, .slice none 0 0]) (by simp [results, Try.results45, go_sem, *]) rfl ?_
  exact HE.out
 | cons x us =>
  rw [Rd.pq] at hRR
  have hdo : Rd.pd q (x :: us) ≠ .out := fun e => by rw [e] at hRR; exact hR hRR.symm
  obtain ⟨RES, hRES⟩ : ∃ RES, Rd.pd q (x :: us) = RES := ⟨_, rfl⟩
  have HCALL : Hid (∀ W, Below w3.heap.size w3 W → Calls Try.prog 28 #[.pointer (some ⟨P, 0, none⟩)] W (Rd.Out P tb C xs W RES)) := fun W hW => by
   rw [← hRES]
   exact HD.out q (by omega) (x :: us) W (by simp) (HSRC3.out.below hW) (HST3.out.below hW) hdo
  have hn0 : ((((x :: us).length : Nat) : Int) == 0) = false := by simp; omega
  rw [show (x :: us).length = us.length + 1 from rfl] at p0 hn0
  obtain ⟨n, hn⟩ : ∃ n, us.length = n := ⟨_, rfl⟩
  rw [hn] at p0 hn0
  have hn0' : (((n : Int) + 1) == 0) = false := by simp; omega
  have HBD : Hid (Below w3.heap.size w3 w3.drew) := (Below.refl _ w3).drew
  have HTS : Hid (w3.drew.cell? ⟨T, 0, none⟩ = some (.int .i64 7)) := hT3.cell 0 rfl
  have HTK : Hid (∀ W, Below w3.heap.size w3 W → W.cell? ⟨T, 0, none⟩ = some (.int .i64 7)) := fun W hW => (HT3.out.below hW).cell 0 rfl
  have HTK2 : Hid (∀ W, Keep (fun j => j = P) w3 W → W.cell? ⟨T, 0, none⟩ = some (.int .i64 7)) := fun W hW => (HT3.out.keep hW (by have := HN.out; omega)).cell 0 rfl
  have HINF : Hid ((Try.prog.info? 25).map (·.size) = some 6) := by show _ = _; kernel_rfl
  have HFIN : Hid (∀ (w5 w6 w7 : World) (y : Dt.D) (b1 b2 b3 : Option Addr) (m1 m2 m3 p1 p2 p3 : Nat) (a7 : Option Addr) (c7 : Nat) (rest : List Lx.PTok) (a2 e2 : Int), Keep (fun j => j = P) w3 w5 → Dt.Rep (fun j => w3.heap.size ≤ j) w5 y (.slice b1 m1 p1) (.slice b2 m2 p2) (.slice b3 m3 p3) → Rd.St w5 P tb C xs rest a2 e2 → Rd.Says RES y rest a2 e2 → Below w5.heap.size w5 w6 → w7.ownsRow w6.heap.size 25 6 (.slice a7 2 c7) 2 (Dt.flatP [Dt.P.mk (Rd.symD (Rd.sgn 7)) (.slice none 0 0) (.slice none 0 0) (.slice none 0 0), Dt.P.mk y (.slice b1 m1 p1) (.slice b2 m2 p2) (.slice b3 m3 p3)]) → Below w6.heap.size w6 w7 →
    w7.cell? ⟨T, 0, none⟩ = some (.int .i64 7) ∧ w7.there R 0 6 ∧ ((set6 w7 R (.int .i64 6) (.int .i64 0) (.string ⟨#[]⟩) (.slice none 0 0) (.slice a7 2 c7) (.slice none 0 0)).cell? ⟨T, 0, none⟩ = some (.int .i64 7) ∧ Hp (set6 w7 R (.int .i64 6) (.int .i64 0) (.string ⟨#[]⟩) (.slice none 0 0) (.slice a7 2 c7) (.slice none 0 0)) R #[.int .i64 6, .int .i64 0, .string ⟨#[]⟩, .slice none 0 0, .slice a7 2 c7, .slice none 0 0] 25) ∧
    Rd.Out P tb C xs w RR (.returned (.agg #[.int .i64 6, .int .i64 0, .string ⟨#[]⟩, .slice none 0 0, .slice a7 2 c7, .slice none 0 0])) (set6 w7 R (.int .i64 6) (.int .i64 0) (.string ⟨#[]⟩) (.slice none 0 0) (.slice a7 2 c7) (.slice none 0 0))) := by
   intro w5 w6 w7 y b1 b2 b3 m1 m2 m3 p1 p2 p3 a7 c7 rest a2 e2 hk5 hr5 hst5 hsay hb6 hown7 hb7
   have hN := HN.out
   have hb57 := hb6.trans (hb7.mono hb6.size)
   have hk7 := hk5.trans (keep_of_below hb57)
   have hT7 := HT3.out.keep hk7 (by omega)
   have hR7 := HR3.out.keep hk7 (by omega)
   have hks := set6_keep w7 R (.int .i64 6) (.int .i64 0) (.string ⟨#[]⟩) (.slice none 0 0) (.slice a7 2 c7) (.slice none 0 0)
   have hrow := Rd.row_of_own (F := fun j => T + 2 ≤ j) hown7 rfl (fun j e => by have := (Dt.own_lt hown7 j e).1; have := hb6.size; have := hk5.size; omega) (fun p hp => by
    simp only [List.mem_cons, List.not_mem_nil, or_false] at hp
    rcases hp with rfl | rfl
    ·exact Rd.rep_sym _ _ _
    ·exact Dt.Rep.mono (fun j hj _ => by omega) y (Dt.Rep.below hb57 hr5))
   refine ⟨hT7.cell 0 rfl, hR7.there (Nat.le_refl _), ⟨(hT7.keep hks (by omega)).cell 0 rfl, hR7.set6 _ _ _ _ _ _⟩, ?_⟩
   refine Rd.Out.fin (r := RR) (x := Rd.quoteD 7 y) (HK3.out.trans hk7) (R := R) (by omega) (by omega) (Dt.Rep.mono (fun j hj _ => by omega) _ (Rd.rep_row 6 hrow)) (Rd.own_nz hown7) (hst5.below hb57) ?_
   rcases hsay with ⟨e, h1, h2⟩ | ⟨b, c, e, h1, h2, h3⟩
   ·rw [hRES, e] at hRR
    exact .inl ⟨hRR.symm, h1, h2⟩
   ·rw [hRES, e] at hRR
    exact .inr ⟨b, c, hRR.symm, h1, h2, h3⟩
  have hidx : ∀ w, (Instr.index 91 (.agg #[.string ⟨#[113, 117, 111, 116, 101]⟩, .string ⟨#[113, 117, 97, 115, 105, 113, 117, 111, 116, 101]⟩, .string ⟨#[117, 110, 113, 117, 111, 116, 101]⟩, .string ⟨#[117, 110, 113, 117, 111, 116, 101, 45, 115, 112, 108, 105, 99, 105, 110, 103]⟩]) (.int .i64 3)).run Try.prog w = .ok (.string ⟨#[117, 110, 113, 117, 111, 116, 101, 45, 115, 112, 108, 105, 99, 105, 110, 103]⟩) w := fun _ => by kernel_rfl
  have hwr : IntKind.i64.wrap 3 = 3 := by decide
  clear hT3 hR3 hP hpre hpa hRR hR hdo hn hn0 hRES
  go_enter Try.func45, Try.ntmps45
  go_upto_region 3 with fail
  clear p0 hw1 hw3
  refine wp_region_noPanic ?_
  refine wp_region_held_drew (S := fun W => W.cell? ⟨T, 0, none⟩ = some (.int .i64 7)) (by kernel_rfl) HTS.out (fun hHeld => ?_)
  refine wpAnyH_take (i := 1) (oi := ⟨_, _, _, _, _, _⟩) (v := ?_) rfl (by kernel_rfl) (by kernel_rfl) (by kernel_rfl) (fun _ _ _ h => h) (Or.inl ⟨by rfl, ?_⟩) (by assumption) ?_
  rotate_left
  ·intro w hSw
   clear hSw
   go_simp
   try with_reducible rfl
  simp only [Act.put, List.setIfInBounds_toArray, List.set_cons_zero, List.set_cons_succ]
  refine wpAnyH_take (i := 6) (oi := ⟨_, _, _, _, _, _⟩) (v := ?_) rfl (by kernel_rfl) (by kernel_rfl) (by kernel_rfl) (fun _ _ _ h => h) (Or.inl ⟨by rfl, ?_⟩) (by assumption) ?_
  rotate_left
  ·intro w hSw
   clear hSw
   go_simp
   try with_reducible rfl
  simp only [Act.put, List.setIfInBounds_toArray, List.set_cons_zero, List.set_cons_succ]
  refine wpAnyH_take (i := 2) (oi := ⟨_, _, _, _, _, _⟩) (v := .int .i64 7) rfl (by kernel_rfl) (by kernel_rfl) (by kernel_rfl) (fun _ _ _ h => h) (Or.inl ⟨by rfl, ?_⟩) (by assumption) ?_
  ·intro w hSw
   have s0 := hSw
   go_simp
   try with_reducible rfl
  simp only [Act.put, List.setIfInBounds_toArray, List.set_cons_zero, List.set_cons_succ]
  refine wpAnyH_take (i := 3) (oi := ⟨_, _, _, _, _, _⟩) (v := .int .i64 3) rfl (by kernel_rfl) (by kernel_rfl) (by kernel_rfl) (fun _ _ _ h => h) (Or.inl ⟨by rfl, ?_⟩) (by assumption) ?_
  ·intro w hSw
   clear hSw
   go_simp
   try with_reducible rfl
  simp only [Act.put, List.setIfInBounds_toArray, List.set_cons_zero, List.set_cons_succ]
  refine wpAnyH_ready (rs := [0]) (by kernel_rfl) (by simp) ?_
  refine AllReadyH.cons (o := ⟨_, _, _, _, _, _⟩) rfl (fun K hK => ?_) AllReadyH.nil
  go_simp
  refine (signs_any _).mono ?_
  rintro e w4 ⟨rfl, hb4⟩
  have HB4 : Hid (Below w3.heap.size w3 w4) := HBD.out.trans hb4
  clear hb4
  dsimp only
  refine hK.out _ _ ?_ (fun hHeld => ?_)
  ·exact HTK.out _ HB4.out
  clear hK K
  try simp only [Act.put, List.setIfInBounds_toArray, List.set_cons_zero, List.set_cons_succ]
  refine wpAnyH_take (i := 4) (oi := ⟨_, _, _, _, _, _⟩) (v := .string ⟨#[117, 110, 113, 117, 111, 116, 101, 45, 115, 112, 108, 105, 99, 105, 110, 103]⟩) rfl (by kernel_rfl) (by kernel_rfl) (by kernel_rfl) (fun _ _ _ h => h) (Or.inl ⟨by rfl, ?_⟩) (by assumption) ?_
  ·intro w hSw
   clear hSw
   have i0 := hidx w
   go_simp
   try with_reducible rfl
  simp only [Act.put, List.setIfInBounds_toArray, List.set_cons_zero, List.set_cons_succ]
  refine wpAnyH_take (i := 5) (oi := ⟨_, _, _, _, _, _⟩) (v := ?_) rfl (by kernel_rfl) (by kernel_rfl) (by kernel_rfl) (fun _ _ _ h => h) (Or.inl ⟨by rfl, ?_⟩) (by assumption) ?_
  rotate_left
  ·intro w hSw
   clear hSw
   go_simp
   try with_reducible rfl
  simp only [Act.put, List.setIfInBounds_toArray, List.set_cons_zero, List.set_cons_succ]
  refine wpAnyH_ready (rs := [7]) (by kernel_rfl) (by simp) ?_
  refine AllReadyH.cons (o := ⟨_, _, _, _, _, _⟩) rfl (fun K hK => ?_) AllReadyH.nil
  go_simp
  refine (HCALL.out _ HB4.out).mono ?_
  rintro e w5 ⟨y, vm, vl, vt, rest, a2, e2, rfl, hr5, -, hst5, hk5, hsay⟩
  obtain ⟨b1, m1, p1, b2, m2, p2, b3, m3, p3, rfl, rfl, rfl⟩ := hr5.forms
  have HK5 : Hid (Keep (fun j => j = P) w3 w5) := (keep_of_below HB4.out).trans hk5
  have HR5 : Hid (Dt.Rep (fun j => w3.heap.size ≤ j) w5 y (.slice b1 m1 p1) (.slice b2 m2 p2) (.slice b3 m3 p3)) := Dt.Rep.mono (fun j hj _ => Nat.le_trans HB4.out.size hj) y hr5
  have HST5 := Lib.hid hst5
  have HSAY := Lib.hid hsay
  clear hr5 hst5 hk5 hsay
  dsimp only
  refine hK.out _ _ ?_ (fun hHeld => ?_)
  ·exact HTK2.out _ HK5.out
  clear hK K
  try simp only [Act.put, List.setIfInBounds_toArray, List.set_cons_zero, List.set_cons_succ]
  refine wpAnyH_ready (rs := [8]) (by kernel_rfl) (by simp) ?_
  refine AllReadyH.cons (o := ⟨_, _, _, _, _, _⟩) rfl (fun K hK => ?_) AllReadyH.nil
  go_simp
  obtain ⟨w6, hw6⟩ : ∃ w6, w5.alloc (.cells #[.int .i64 5, .int .i64 0, .string ⟨#[117, 110, 113, 117, 111, 116, 101, 45, 115, 112, 108, 105, 99, 105, 110, 103]⟩, .slice none 0 0, .slice none 0 0, .slice none 0 0, .int .i64 y.k, .int .i64 y.n, .string y.s, .slice b1 m1 p1, .slice b2 m2 p2, .slice b3 m3 p3] 25) = w6 := ⟨_, rfl⟩
  rw [hw6]
  have HB6 := Lib.hid (new_below hw6)
  have HP6 := Lib.hid (Hp.new hw6)
  clear hw6
  refine hK.out _ _ ?_ (fun hHeld => ?_)
  ·exact HTK2.out _ (HK5.out.trans (keep_of_below HB6.out.1))
  clear hK K
  try simp only [Act.put, List.setIfInBounds_toArray, List.set_cons_zero, List.set_cons_succ]
  refine wpAnyH_ready (rs := [9]) (by kernel_rfl) (by simp) ?_
  refine AllReadyH.cons (o := ⟨_, _, _, _, _, _⟩) rfl (fun K hK => ?_) AllReadyH.nil
  go_simp
  refine (dataList_any w5.heap.size 2 2 [Dt.P.mk (Rd.symD (Rd.sgn 7)) (.slice none 0 0) (.slice none 0 0) (.slice none 0 0), Dt.P.mk y (.slice b1 m1 p1) (.slice b2 m2 p2) (.slice b3 m3 p3)] _ (Rd.two_src (y := y) HP6.out) rfl (by decide) (Rd.flatP_one _ (fun p hp => Rd.two_forms hp))).mono ?_
  rintro e w7 ⟨a7, c7, rfl, hown7, hb7⟩
  obtain ⟨g1, g2, g3, g4⟩ := HFIN.out w5 w6 w7 y b1 b2 b3 m1 m2 m3 p1 p2 p3 a7 c7 rest a2 e2 HK5.out HR5.out HST5.out HSAY.out HB6.out.1 hown7 hb7
  obtain ⟨w9, hw9⟩ : ∃ w9, set6 w7 R (.int .i64 6) (.int .i64 0) (.string ⟨#[]⟩) (.slice none 0 0) (.slice a7 2 c7) (.slice none 0 0) = w9 := ⟨_, rfl⟩
  rw [hw9] at g3 g4
  have HTH := Lib.hid g2
  have HG1 := Lib.hid g1
  have HG3 : Hid (w9.cell? ⟨T, 0, none⟩ = some (.int .i64 7)) := g3.1
  have HE := Lib.hid g4
  have HW9 := Lib.hid hw9
  have e0 := g3.2.cell 0 rfl
  have e1 := g3.2.cell 1 rfl
  have e2' := g3.2.cell 2 rfl
  have e3 := g3.2.cell 3 rfl
  have e4 := g3.2.cell 4 rfl
  have e5 := g3.2.cell 5 rfl
  clear hown7 hb7 g1 g2 g3 g4 hw9
  dsimp only
  refine hK.out _ _ ?_ (fun hHeld => ?_)
  ·exact HG1.out
  clear hK K
  try simp only [Act.put, List.setIfInBounds_toArray, List.set_cons_zero, List.set_cons_succ]
  refine wpAnyH_ready (rs := [10]) (by kernel_rfl) (by simp) ?_
  refine AllReadyH.cons (o := ⟨_, _, _, _, _, _⟩) rfl (fun K hK => ?_) AllReadyH.nil
  refine wp_store_mid _ _ _ rfl R 0 #[.int .i64 6, .int .i64 0, .string ⟨#[]⟩, .slice none 0 0, .slice a7 2 c7, .slice none 0 0] rfl rfl HTH.out HINF.out (by simp [Value.oneCell']) ?_
  rw [setCells6, HW9.out]
  refine hK.out _ _ ?_ (fun hHeld => ?_)
  ·exact HG3.out
  clear hK K
  try simp only [Act.put]
  refine wpAnyH_done (by kernel_rfl) ?_ _
  refine NoPanic.normal ?_
  go_wp2
  refine bodyPost_ret (v := .agg #[.int .i64 6, .int .i64 0, .string ⟨#[]⟩, .slice none 0 0, .slice a7 2 c7, .slice none 0 0]) (by simp [results, Try.results45, go_sem, *]) rfl ?_
  exact HE.out
end Go.Proofs.Ytcopdfihaheplaa
namespace Go.Proofs.Ytcopdfihaheplaa
open Go.RowKit
attribute [local go_sem] Oper.semAt_some
set_option maxRecDepth 100000 in
set_option maxHeartbeats 8000000 in
theorem leaf_9 (P : Nat) (tn ta tz : Int) (ts : ByteArray) (w : World) :
  Calls Try.prog 41 #[.pointer (some ⟨P, 0, none⟩), .agg #[.int .i64 9, .int .i64 ta, .int .i64 tz, .int .i64 tn, .string ts]] w fun e w' => e = .returned (.agg #[.int .i64 1, .int .i64 tn, .string ts, .slice none 0 0, .slice none 0 0, .slice none 0 0]) ∧ Below w.heap.size w w' := by
 obtain ⟨w1, hw1⟩ : ∃ w1, w.alloc (.cells #[.int .i64 9, .int .i64 ta, .int .i64 tz, .int .i64 tn, .string ts] 47) = w1 := ⟨_, rfl⟩
 obtain ⟨w2, hw2⟩ : ∃ w2, w1.alloc (.cells #[.int .i64 0, .int .i64 0, .string ⟨#[]⟩, .slice none 0 0, .slice none 0 0, .slice none 0 0] 25) = w2 := ⟨_, rfl⟩
 obtain ⟨w3, hw3⟩ : ∃ w3, w2.alloc (.cells #[.int .i64 0, .int .i64 0, .int .i64 0, .int .i64 0, .int .i64 0, .int .i64 0, .int .i64 0, .int .i64 0, .int .i64 0, .int .i64 1, .int .i64 2, .int .i64 3, .int .i64 4, .int .i64 5] 107) = w3 := ⟨_, rfl⟩
 obtain ⟨hb1, hs1⟩ := new_below hw1
 obtain ⟨hb2, hs2⟩ := new_below hw2
 obtain ⟨hb3, hs3⟩ := new_below hw3
 have hT3 := ((Hp.new hw1).below hb2).below hb3
 have hR3 := (Hp.new hw2).below hb3
 have hA3 := Hp.new hw3
 obtain ⟨T, hT⟩ : ∃ T, w.heap.size = T := ⟨_, rfl⟩
 obtain ⟨R, hR⟩ : ∃ R, w1.heap.size = R := ⟨_, rfl⟩
 obtain ⟨A, hA⟩ : ∃ A, w2.heap.size = A := ⟨_, rfl⟩
 rw [hT] at hT3 hs1
 rw [hR] at hR3 hs1 hs2
 rw [hA] at hA3 hs2 hs3
 obtain ⟨w5, hw5⟩ : ∃ w5, set6 w3.drew R (.int .i64 1) (.int .i64 tn) (.string ts) (.slice none 0 0) (.slice none 0 0) (.slice none 0 0) = w5 := ⟨_, rfl⟩
 have hRd : Hp w3.drew R #[.int .i64 0, .int .i64 0, .string ⟨#[]⟩, .slice none 0 0, .slice none 0 0, .slice none 0 0] 25 := hR3
 have hTd : Hp w3.drew T _ _ := hT3
 have hAd : Hp w3.drew A _ _ := hA3
 have hk5 : Keep (fun k => k = R) w3.drew w5 := by rw [← hw5]; exact set6_keep _ _ _ _ _ _ _ _
 have hR5 : Hp w5 R #[.int .i64 1, .int .i64 tn, .string ts, .slice none 0 0, .slice none 0 0, .slice none 0 0] 25 := by rw [← hw5]; exact hRd.set6 _ _ _ _ _ _
 have HEND : Hid (Below w.heap.size w w5) := by
  have hb := hb1.trans ((hb2.trans (hb3.mono hb2.size)).mono hb1.size)
  exact hb.drew.trans (hk5.to_below (fun k e => by omega) (Nat.le_trans hb.size (Nat.le_refl _)))
 have HS0 : w3.drew.cell? ⟨T, 0, none⟩ = some (.int .i64 9) ∧ w3.drew.cell? ⟨T, 3, none⟩ = some (.int .i64 tn) ∧ w3.drew.cell? ⟨T, 4, none⟩ = some (.string ts) ∧ w3.drew.cell? ⟨A, 9, none⟩ = some (.int .i64 1) := ⟨hTd.cell 0 rfl, hTd.cell 3 rfl, hTd.cell 4 rfl, hAd.cell 9 rfl⟩
 have HSE : Hid (w5.cell? ⟨T, 0, none⟩ = some (.int .i64 9) ∧ w5.cell? ⟨T, 3, none⟩ = some (.int .i64 tn) ∧ w5.cell? ⟨T, 4, none⟩ = some (.string ts) ∧ w5.cell? ⟨A, 9, none⟩ = some (.int .i64 1)) := ⟨(hTd.keep hk5 (by omega)).cell 0 rfl, (hTd.keep hk5 (by omega)).cell 3 rfl, (hTd.keep hk5 (by omega)).cell 4 rfl, (hAd.keep hk5 (by omega)).cell 9 rfl⟩
 have HTH : Hid (w3.drew.there R 0 6) := hRd.there (Nat.le_refl _)
 have HINF : Hid ((Try.prog.info? 25).map (·.size) = some 6) := by show _ = _; kernel_rfl
 have HW5 := Lib.hid hw5
 have d0 := hR5.cell 0 rfl
 have d1 := hR5.cell 1 rfl
 have d2 := hR5.cell 2 rfl
 have d3 := hR5.cell 3 rfl
 have d4 := hR5.cell 4 rfl
 have d5 := hR5.cell 5 rfl
 clear hb1 hb2 hb3 hs1 hs2 hs3 hT3 hR3 hA3 hRd hTd hAd hk5 hR5 hw5
 go_enter Try.func41, Try.ntmps41
 go_wp2
 refine wp_region_noPanic ?_
 refine wp_region_held_drew (S := fun W => W.cell? ⟨T, 0, none⟩ = some (.int .i64 9) ∧ W.cell? ⟨T, 3, none⟩ = some (.int .i64 tn) ∧ W.cell? ⟨T, 4, none⟩ = some (.string ts) ∧ W.cell? ⟨A, 9, none⟩ = some (.int .i64 1)) (by kernel_rfl) HS0 (fun hHeld => ?_)
 refine wpAnyH_take (i := 0) (oi := ⟨_, _, _, _, _, _⟩) (v := ?_) rfl (by kernel_rfl) (by kernel_rfl) (by kernel_rfl) (fun _ _ _ h => h) (Or.inl ⟨by rfl, ?_⟩) (by assumption) ?_
 rotate_left
 ·intro w hSw
  clear hSw
  go_simp
  try with_reducible rfl
 simp only [Act.put, List.setIfInBounds_toArray, List.set_cons_zero, List.set_cons_succ]
 refine wpAnyH_take (i := 4) (oi := ⟨_, _, _, _, _, _⟩) (v := ?_) rfl (by kernel_rfl) (by kernel_rfl) (by kernel_rfl) (fun _ _ _ h => h) (Or.inl ⟨by rfl, ?_⟩) (by assumption) ?_
 rotate_left
 ·intro w hSw
  clear hSw
  go_simp
  try with_reducible rfl
 simp only [Act.put, List.setIfInBounds_toArray, List.set_cons_zero, List.set_cons_succ]
 refine wpAnyH_take (i := 6) (oi := ⟨_, _, _, _, _, _⟩) (v := ?_) rfl (by kernel_rfl) (by kernel_rfl) (by kernel_rfl) (fun _ _ _ h => h) (Or.inl ⟨by rfl, ?_⟩) (by assumption) ?_
 rotate_left
 ·intro w hSw
  clear hSw
  go_simp
  try with_reducible rfl
 simp only [Act.put, List.setIfInBounds_toArray, List.set_cons_zero, List.set_cons_succ]
 refine wpAnyH_take (i := 1) (oi := ⟨_, _, _, _, _, _⟩) (v := ?_) rfl (by kernel_rfl) (by kernel_rfl) (by kernel_rfl) (fun _ _ _ h => h) (Or.inl ⟨by rfl, ?_⟩) (by assumption) ?_
 rotate_left
 ·intro w hSw
  obtain ⟨s0, s1, s2, s3⟩ := hSw
  go_simp
  try with_reducible rfl
 simp only [Act.put, List.setIfInBounds_toArray, List.set_cons_zero, List.set_cons_succ]
 refine wpAnyH_take (i := 5) (oi := ⟨_, _, _, _, _, _⟩) (v := ?_) rfl (by kernel_rfl) (by kernel_rfl) (by kernel_rfl) (fun _ _ _ h => h) (Or.inl ⟨by rfl, ?_⟩) (by assumption) ?_
 rotate_left
 ·intro w hSw
  obtain ⟨s0, s1, s2, s3⟩ := hSw
  go_simp
  try with_reducible rfl
 simp only [Act.put, List.setIfInBounds_toArray, List.set_cons_zero, List.set_cons_succ]
 refine wpAnyH_take (i := 7) (oi := ⟨_, _, _, _, _, _⟩) (v := ?_) rfl (by kernel_rfl) (by kernel_rfl) (by kernel_rfl) (fun _ _ _ h => h) (Or.inl ⟨by rfl, ?_⟩) (by assumption) ?_
 rotate_left
 ·intro w hSw
  obtain ⟨s0, s1, s2, s3⟩ := hSw
  go_simp
  try with_reducible rfl
 simp only [Act.put, List.setIfInBounds_toArray, List.set_cons_zero, List.set_cons_succ]
 refine wpAnyH_take (i := 2) (oi := ⟨_, _, _, _, _, _⟩) (v := ?_) rfl (by kernel_rfl) (by kernel_rfl) (by kernel_rfl) (fun _ _ _ h => h) (Or.inl ⟨by rfl, ?_⟩) (by assumption) ?_
 rotate_left
 ·intro w hSw
  clear hSw
  go_simp
  try with_reducible rfl
 simp only [Act.put, List.setIfInBounds_toArray, List.set_cons_zero, List.set_cons_succ]
 refine wpAnyH_take (i := 3) (oi := ⟨_, _, _, _, _, _⟩) (v := ?_) rfl (by kernel_rfl) (by kernel_rfl) (by kernel_rfl) (fun _ _ _ h => h) (Or.inl ⟨by rfl, ?_⟩) (by assumption) ?_
 rotate_left
 ·intro w hSw
  obtain ⟨s0, s1, s2, s3⟩ := hSw
  go_simp
  try with_reducible rfl
 simp only [Act.put, List.setIfInBounds_toArray, List.set_cons_zero, List.set_cons_succ]
 refine wpAnyH_take (i := 8) (oi := ⟨_, _, _, _, _, _⟩) (v := ?_) rfl (by kernel_rfl) (by kernel_rfl) (by kernel_rfl) (fun _ _ _ h => h) (Or.inl ⟨by rfl, ?_⟩) (by assumption) ?_
 rotate_left
 ·intro w hSw
  clear hSw
  go_simp
  try with_reducible rfl
 simp only [Act.put, List.setIfInBounds_toArray, List.set_cons_zero, List.set_cons_succ]
 refine wpAnyH_ready (rs := [9]) (by kernel_rfl) (by simp) ?_
 refine AllReadyH.cons (o := ⟨_, _, _, _, _, _⟩) rfl (fun K hK => ?_) AllReadyH.nil
 refine wp_store_mid _ _ _ rfl R 0 #[.int .i64 1, .int .i64 tn, .string ts, .slice none 0 0, .slice none 0 0, .slice none 0 0] rfl rfl HTH.out HINF.out (by simp [Value.oneCell']) ?_
 rw [setCells6, HW5.out]
 refine hK.out _ _ ?_ (fun hHeld => ?_)
 ·exact HSE.out
 clear hK K
 try simp only [Act.put]
 refine wpAnyH_done (by kernel_rfl) ?_ _
 refine NoPanic.normal ?_
 go_wp2
 refine bodyPost_ret (v := .agg #[.int .i64 1, .int .i64 tn, .string ts, .slice none 0 0, .slice none 0 0, .slice none 0 0]) (by simp [results, Try.results41, go_sem, *]) rfl ?_
 exact ⟨rfl, HEND.out⟩
set_option maxRecDepth 100000 in
set_option maxHeartbeats 8000000 in
theorem leaf_10 (P : Nat) (tn ta tz : Int) (ts : ByteArray) (w : World) :
  Calls Try.prog 41 #[.pointer (some ⟨P, 0, none⟩), .agg #[.int .i64 10, .int .i64 ta, .int .i64 tz, .int .i64 tn, .string ts]] w fun e w' => e = .returned (.agg #[.int .i64 2, .int .i64 tn, .string ts, .slice none 0 0, .slice none 0 0, .slice none 0 0]) ∧ Below w.heap.size w w' := by
 obtain ⟨w1, hw1⟩ : ∃ w1, w.alloc (.cells #[.int .i64 10, .int .i64 ta, .int .i64 tz, .int .i64 tn, .string ts] 47) = w1 := ⟨_, rfl⟩
 obtain ⟨w2, hw2⟩ : ∃ w2, w1.alloc (.cells #[.int .i64 0, .int .i64 0, .string ⟨#[]⟩, .slice none 0 0, .slice none 0 0, .slice none 0 0] 25) = w2 := ⟨_, rfl⟩
 obtain ⟨w3, hw3⟩ : ∃ w3, w2.alloc (.cells #[.int .i64 0, .int .i64 0, .int .i64 0, .int .i64 0, .int .i64 0, .int .i64 0, .int .i64 0, .int .i64 0, .int .i64 0, .int .i64 1, .int .i64 2, .int .i64 3, .int .i64 4, .int .i64 5] 107) = w3 := ⟨_, rfl⟩
 obtain ⟨hb1, hs1⟩ := new_below hw1
 obtain ⟨hb2, hs2⟩ := new_below hw2
 obtain ⟨hb3, hs3⟩ := new_below hw3
 have hT3 := ((Hp.new hw1).below hb2).below hb3
 have hR3 := (Hp.new hw2).below hb3
 have hA3 := Hp.new hw3
 obtain ⟨T, hT⟩ : ∃ T, w.heap.size = T := ⟨_, rfl⟩
 obtain ⟨R, hR⟩ : ∃ R, w1.heap.size = R := ⟨_, rfl⟩
 obtain ⟨A, hA⟩ : ∃ A, w2.heap.size = A := ⟨_, rfl⟩
 rw [hT] at hT3 hs1
 rw [hR] at hR3 hs1 hs2
 rw [hA] at hA3 hs2 hs3
 obtain ⟨w5, hw5⟩ : ∃ w5, set6 w3.drew R (.int .i64 2) (.int .i64 tn) (.string ts) (.slice none 0 0) (.slice none 0 0) (.slice none 0 0) = w5 := ⟨_, rfl⟩
 have hRd : Hp w3.drew R #[.int .i64 0, .int .i64 0, .string ⟨#[]⟩, .slice none 0 0, .slice none 0 0, .slice none 0 0] 25 := hR3
 have hTd : Hp w3.drew T _ _ := hT3
 have hAd : Hp w3.drew A _ _ := hA3
 have hk5 : Keep (fun k => k = R) w3.drew w5 := by rw [← hw5]; exact set6_keep _ _ _ _ _ _ _ _
 have hR5 : Hp w5 R #[.int .i64 2, .int .i64 tn, .string ts, .slice none 0 0, .slice none 0 0, .slice none 0 0] 25 := by rw [← hw5]; exact hRd.set6 _ _ _ _ _ _
 have HEND : Hid (Below w.heap.size w w5) := by
  have hb := hb1.trans ((hb2.trans (hb3.mono hb2.size)).mono hb1.size)
  exact hb.drew.trans (hk5.to_below (fun k e => by omega) (Nat.le_trans hb.size (Nat.le_refl _)))
 have HS0 : w3.drew.cell? ⟨T, 0, none⟩ = some (.int .i64 10) ∧ w3.drew.cell? ⟨T, 3, none⟩ = some (.int .i64 tn) ∧ w3.drew.cell? ⟨T, 4, none⟩ = some (.string ts) ∧ w3.drew.cell? ⟨A, 10, none⟩ = some (.int .i64 2) := ⟨hTd.cell 0 rfl, hTd.cell 3 rfl, hTd.cell 4 rfl, hAd.cell 10 rfl⟩
 have HSE : Hid (w5.cell? ⟨T, 0, none⟩ = some (.int .i64 10) ∧ w5.cell? ⟨T, 3, none⟩ = some (.int .i64 tn) ∧ w5.cell? ⟨T, 4, none⟩ = some (.string ts) ∧ w5.cell? ⟨A, 10, none⟩ = some (.int .i64 2)) := ⟨(hTd.keep hk5 (by omega)).cell 0 rfl, (hTd.keep hk5 (by omega)).cell 3 rfl, (hTd.keep hk5 (by omega)).cell 4 rfl, (hAd.keep hk5 (by omega)).cell 10 rfl⟩
 have HTH : Hid (w3.drew.there R 0 6) := hRd.there (Nat.le_refl _)
 have HINF : Hid ((Try.prog.info? 25).map (·.size) = some 6) := by show _ = _; kernel_rfl
 have HW5 := Lib.hid hw5
 have d0 := hR5.cell 0 rfl
 have d1 := hR5.cell 1 rfl
 have d2 := hR5.cell 2 rfl
 have d3 := hR5.cell 3 rfl
 have d4 := hR5.cell 4 rfl
 have d5 := hR5.cell 5 rfl
 clear hb1 hb2 hb3 hs1 hs2 hs3 hT3 hR3 hA3 hRd hTd hAd hk5 hR5 hw5
 go_enter Try.func41, Try.ntmps41
 go_wp2
 refine wp_region_noPanic ?_
 refine wp_region_held_drew (S := fun W => W.cell? ⟨T, 0, none⟩ = some (.int .i64 10) ∧ W.cell? ⟨T, 3, none⟩ = some (.int .i64 tn) ∧ W.cell? ⟨T, 4, none⟩ = some (.string ts) ∧ W.cell? ⟨A, 10, none⟩ = some (.int .i64 2)) (by kernel_rfl) HS0 (fun hHeld => ?_)
 refine wpAnyH_take (i := 0) (oi := ⟨_, _, _, _, _, _⟩) (v := ?_) rfl (by kernel_rfl) (by kernel_rfl) (by kernel_rfl) (fun _ _ _ h => h) (Or.inl ⟨by rfl, ?_⟩) (by assumption) ?_
 rotate_left
 ·intro w hSw
  clear hSw
  go_simp
  try with_reducible rfl
 simp only [Act.put, List.setIfInBounds_toArray, List.set_cons_zero, List.set_cons_succ]
 refine wpAnyH_take (i := 4) (oi := ⟨_, _, _, _, _, _⟩) (v := ?_) rfl (by kernel_rfl) (by kernel_rfl) (by kernel_rfl) (fun _ _ _ h => h) (Or.inl ⟨by rfl, ?_⟩) (by assumption) ?_
 rotate_left
 ·intro w hSw
  clear hSw
  go_simp
  try with_reducible rfl
 simp only [Act.put, List.setIfInBounds_toArray, List.set_cons_zero, List.set_cons_succ]
 refine wpAnyH_take (i := 6) (oi := ⟨_, _, _, _, _, _⟩) (v := ?_) rfl (by kernel_rfl) (by kernel_rfl) (by kernel_rfl) (fun _ _ _ h => h) (Or.inl ⟨by rfl, ?_⟩) (by assumption) ?_
 rotate_left
 ·intro w hSw
  clear hSw
  go_simp
  try with_reducible rfl
 simp only [Act.put, List.setIfInBounds_toArray, List.set_cons_zero, List.set_cons_succ]
 refine wpAnyH_take (i := 1) (oi := ⟨_, _, _, _, _, _⟩) (v := ?_) rfl (by kernel_rfl) (by kernel_rfl) (by kernel_rfl) (fun _ _ _ h => h) (Or.inl ⟨by rfl, ?_⟩) (by assumption) ?_
 rotate_left
 ·intro w hSw
  obtain ⟨s0, s1, s2, s3⟩ := hSw
  go_simp
  try with_reducible rfl
 simp only [Act.put, List.setIfInBounds_toArray, List.set_cons_zero, List.set_cons_succ]
 refine wpAnyH_take (i := 5) (oi := ⟨_, _, _, _, _, _⟩) (v := ?_) rfl (by kernel_rfl) (by kernel_rfl) (by kernel_rfl) (fun _ _ _ h => h) (Or.inl ⟨by rfl, ?_⟩) (by assumption) ?_
 rotate_left
 ·intro w hSw
  obtain ⟨s0, s1, s2, s3⟩ := hSw
  go_simp
  try with_reducible rfl
 simp only [Act.put, List.setIfInBounds_toArray, List.set_cons_zero, List.set_cons_succ]
 refine wpAnyH_take (i := 7) (oi := ⟨_, _, _, _, _, _⟩) (v := ?_) rfl (by kernel_rfl) (by kernel_rfl) (by kernel_rfl) (fun _ _ _ h => h) (Or.inl ⟨by rfl, ?_⟩) (by assumption) ?_
 rotate_left
 ·intro w hSw
  obtain ⟨s0, s1, s2, s3⟩ := hSw
  go_simp
  try with_reducible rfl
 simp only [Act.put, List.setIfInBounds_toArray, List.set_cons_zero, List.set_cons_succ]
 refine wpAnyH_take (i := 2) (oi := ⟨_, _, _, _, _, _⟩) (v := ?_) rfl (by kernel_rfl) (by kernel_rfl) (by kernel_rfl) (fun _ _ _ h => h) (Or.inl ⟨by rfl, ?_⟩) (by assumption) ?_
 rotate_left
 ·intro w hSw
  clear hSw
  go_simp
  try with_reducible rfl
 simp only [Act.put, List.setIfInBounds_toArray, List.set_cons_zero, List.set_cons_succ]
 refine wpAnyH_take (i := 3) (oi := ⟨_, _, _, _, _, _⟩) (v := ?_) rfl (by kernel_rfl) (by kernel_rfl) (by kernel_rfl) (fun _ _ _ h => h) (Or.inl ⟨by rfl, ?_⟩) (by assumption) ?_
 rotate_left
 ·intro w hSw
  obtain ⟨s0, s1, s2, s3⟩ := hSw
  go_simp
  try with_reducible rfl
 simp only [Act.put, List.setIfInBounds_toArray, List.set_cons_zero, List.set_cons_succ]
 refine wpAnyH_take (i := 8) (oi := ⟨_, _, _, _, _, _⟩) (v := ?_) rfl (by kernel_rfl) (by kernel_rfl) (by kernel_rfl) (fun _ _ _ h => h) (Or.inl ⟨by rfl, ?_⟩) (by assumption) ?_
 rotate_left
 ·intro w hSw
  clear hSw
  go_simp
  try with_reducible rfl
 simp only [Act.put, List.setIfInBounds_toArray, List.set_cons_zero, List.set_cons_succ]
 refine wpAnyH_ready (rs := [9]) (by kernel_rfl) (by simp) ?_
 refine AllReadyH.cons (o := ⟨_, _, _, _, _, _⟩) rfl (fun K hK => ?_) AllReadyH.nil
 refine wp_store_mid _ _ _ rfl R 0 #[.int .i64 2, .int .i64 tn, .string ts, .slice none 0 0, .slice none 0 0, .slice none 0 0] rfl rfl HTH.out HINF.out (by simp [Value.oneCell']) ?_
 rw [setCells6, HW5.out]
 refine hK.out _ _ ?_ (fun hHeld => ?_)
 ·exact HSE.out
 clear hK K
 try simp only [Act.put]
 refine wpAnyH_done (by kernel_rfl) ?_ _
 refine NoPanic.normal ?_
 go_wp2
 refine bodyPost_ret (v := .agg #[.int .i64 2, .int .i64 tn, .string ts, .slice none 0 0, .slice none 0 0, .slice none 0 0]) (by simp [results, Try.results41, go_sem, *]) rfl ?_
 exact ⟨rfl, HEND.out⟩
set_option maxRecDepth 100000 in
set_option maxHeartbeats 8000000 in
theorem leaf_11 (P : Nat) (tn ta tz : Int) (ts : ByteArray) (w : World) :
  Calls Try.prog 41 #[.pointer (some ⟨P, 0, none⟩), .agg #[.int .i64 11, .int .i64 ta, .int .i64 tz, .int .i64 tn, .string ts]] w fun e w' => e = .returned (.agg #[.int .i64 3, .int .i64 tn, .string ts, .slice none 0 0, .slice none 0 0, .slice none 0 0]) ∧ Below w.heap.size w w' := by
 obtain ⟨w1, hw1⟩ : ∃ w1, w.alloc (.cells #[.int .i64 11, .int .i64 ta, .int .i64 tz, .int .i64 tn, .string ts] 47) = w1 := ⟨_, rfl⟩
 obtain ⟨w2, hw2⟩ : ∃ w2, w1.alloc (.cells #[.int .i64 0, .int .i64 0, .string ⟨#[]⟩, .slice none 0 0, .slice none 0 0, .slice none 0 0] 25) = w2 := ⟨_, rfl⟩
 obtain ⟨w3, hw3⟩ : ∃ w3, w2.alloc (.cells #[.int .i64 0, .int .i64 0, .int .i64 0, .int .i64 0, .int .i64 0, .int .i64 0, .int .i64 0, .int .i64 0, .int .i64 0, .int .i64 1, .int .i64 2, .int .i64 3, .int .i64 4, .int .i64 5] 107) = w3 := ⟨_, rfl⟩
 obtain ⟨hb1, hs1⟩ := new_below hw1
 obtain ⟨hb2, hs2⟩ := new_below hw2
 obtain ⟨hb3, hs3⟩ := new_below hw3
 have hT3 := ((Hp.new hw1).below hb2).below hb3
 have hR3 := (Hp.new hw2).below hb3
 have hA3 := Hp.new hw3
 obtain ⟨T, hT⟩ : ∃ T, w.heap.size = T := ⟨_, rfl⟩
 obtain ⟨R, hR⟩ : ∃ R, w1.heap.size = R := ⟨_, rfl⟩
 obtain ⟨A, hA⟩ : ∃ A, w2.heap.size = A := ⟨_, rfl⟩
 rw [hT] at hT3 hs1
 rw [hR] at hR3 hs1 hs2
 rw [hA] at hA3 hs2 hs3
 obtain ⟨w5, hw5⟩ : ∃ w5, set6 w3.drew R (.int .i64 3) (.int .i64 tn) (.string ts) (.slice none 0 0) (.slice none 0 0) (.slice none 0 0) = w5 := ⟨_, rfl⟩
 have hRd : Hp w3.drew R #[.int .i64 0, .int .i64 0, .string ⟨#[]⟩, .slice none 0 0, .slice none 0 0, .slice none 0 0] 25 := hR3
 have hTd : Hp w3.drew T _ _ := hT3
 have hAd : Hp w3.drew A _ _ := hA3
 have hk5 : Keep (fun k => k = R) w3.drew w5 := by rw [← hw5]; exact set6_keep _ _ _ _ _ _ _ _
 have hR5 : Hp w5 R #[.int .i64 3, .int .i64 tn, .string ts, .slice none 0 0, .slice none 0 0, .slice none 0 0] 25 := by rw [← hw5]; exact hRd.set6 _ _ _ _ _ _
 have HEND : Hid (Below w.heap.size w w5) := by
  have hb := hb1.trans ((hb2.trans (hb3.mono hb2.size)).mono hb1.size)
  exact hb.drew.trans (hk5.to_below (fun k e => by omega) (Nat.le_trans hb.size (Nat.le_refl _)))
 have HS0 : w3.drew.cell? ⟨T, 0, none⟩ = some (.int .i64 11) ∧ w3.drew.cell? ⟨T, 3, none⟩ = some (.int .i64 tn) ∧ w3.drew.cell? ⟨T, 4, none⟩ = some (.string ts) ∧ w3.drew.cell? ⟨A, 11, none⟩ = some (.int .i64 3) := ⟨hTd.cell 0 rfl, hTd.cell 3 rfl, hTd.cell 4 rfl, hAd.cell 11 rfl⟩
 have HSE : Hid (w5.cell? ⟨T, 0, none⟩ = some (.int .i64 11) ∧ w5.cell? ⟨T, 3, none⟩ = some (.int .i64 tn) ∧ w5.cell? ⟨T, 4, none⟩ = some (.string ts) ∧ w5.cell? ⟨A, 11, none⟩ = some (.int .i64 3)) := ⟨(hTd.keep hk5 (by omega)).cell 0 rfl, (hTd.keep hk5 (by omega)).cell 3 rfl, (hTd.keep hk5 (by omega)).cell 4 rfl, (hAd.keep hk5 (by omega)).cell 11 rfl⟩
 have HTH : Hid (w3.drew.there R 0 6) := hRd.there (Nat.le_refl _)
 have HINF : Hid ((Try.prog.info? 25).map (·.size) = some 6) := by show _ = _; kernel_rfl
 have HW5 := Lib.hid hw5
 have d0 := hR5.cell 0 rfl
 have d1 := hR5.cell 1 rfl
 have d2 := hR5.cell 2 rfl
 have d3 := hR5.cell 3 rfl
 have d4 := hR5.cell 4 rfl
 have d5 := hR5.cell 5 rfl
 clear hb1 hb2 hb3 hs1 hs2 hs3 hT3 hR3 hA3 hRd hTd hAd hk5 hR5 hw5
 go_enter Try.func41, Try.ntmps41
 go_wp2
 refine wp_region_noPanic ?_
 refine wp_region_held_drew (S := fun W => W.cell? ⟨T, 0, none⟩ = some (.int .i64 11) ∧ W.cell? ⟨T, 3, none⟩ = some (.int .i64 tn) ∧ W.cell? ⟨T, 4, none⟩ = some (.string ts) ∧ W.cell? ⟨A, 11, none⟩ = some (.int .i64 3)) (by kernel_rfl) HS0 (fun hHeld => ?_)
 refine wpAnyH_take (i := 0) (oi := ⟨_, _, _, _, _, _⟩) (v := ?_) rfl (by kernel_rfl) (by kernel_rfl) (by kernel_rfl) (fun _ _ _ h => h) (Or.inl ⟨by rfl, ?_⟩) (by assumption) ?_
 rotate_left
 ·intro w hSw
  clear hSw
  go_simp
  try with_reducible rfl
 simp only [Act.put, List.setIfInBounds_toArray, List.set_cons_zero, List.set_cons_succ]
 refine wpAnyH_take (i := 4) (oi := ⟨_, _, _, _, _, _⟩) (v := ?_) rfl (by kernel_rfl) (by kernel_rfl) (by kernel_rfl) (fun _ _ _ h => h) (Or.inl ⟨by rfl, ?_⟩) (by assumption) ?_
 rotate_left
 ·intro w hSw
  clear hSw
  go_simp
  try with_reducible rfl
 simp only [Act.put, List.setIfInBounds_toArray, List.set_cons_zero, List.set_cons_succ]
 refine wpAnyH_take (i := 6) (oi := ⟨_, _, _, _, _, _⟩) (v := ?_) rfl (by kernel_rfl) (by kernel_rfl) (by kernel_rfl) (fun _ _ _ h => h) (Or.inl ⟨by rfl, ?_⟩) (by assumption) ?_
 rotate_left
 ·intro w hSw
  clear hSw
  go_simp
  try with_reducible rfl
 simp only [Act.put, List.setIfInBounds_toArray, List.set_cons_zero, List.set_cons_succ]
 refine wpAnyH_take (i := 1) (oi := ⟨_, _, _, _, _, _⟩) (v := ?_) rfl (by kernel_rfl) (by kernel_rfl) (by kernel_rfl) (fun _ _ _ h => h) (Or.inl ⟨by rfl, ?_⟩) (by assumption) ?_
 rotate_left
 ·intro w hSw
  obtain ⟨s0, s1, s2, s3⟩ := hSw
  go_simp
  try with_reducible rfl
 simp only [Act.put, List.setIfInBounds_toArray, List.set_cons_zero, List.set_cons_succ]
 refine wpAnyH_take (i := 5) (oi := ⟨_, _, _, _, _, _⟩) (v := ?_) rfl (by kernel_rfl) (by kernel_rfl) (by kernel_rfl) (fun _ _ _ h => h) (Or.inl ⟨by rfl, ?_⟩) (by assumption) ?_
 rotate_left
 ·intro w hSw
  obtain ⟨s0, s1, s2, s3⟩ := hSw
  go_simp
  try with_reducible rfl
 simp only [Act.put, List.setIfInBounds_toArray, List.set_cons_zero, List.set_cons_succ]
 refine wpAnyH_take (i := 7) (oi := ⟨_, _, _, _, _, _⟩) (v := ?_) rfl (by kernel_rfl) (by kernel_rfl) (by kernel_rfl) (fun _ _ _ h => h) (Or.inl ⟨by rfl, ?_⟩) (by assumption) ?_
 rotate_left
 ·intro w hSw
  obtain ⟨s0, s1, s2, s3⟩ := hSw
  go_simp
  try with_reducible rfl
 simp only [Act.put, List.setIfInBounds_toArray, List.set_cons_zero, List.set_cons_succ]
 refine wpAnyH_take (i := 2) (oi := ⟨_, _, _, _, _, _⟩) (v := ?_) rfl (by kernel_rfl) (by kernel_rfl) (by kernel_rfl) (fun _ _ _ h => h) (Or.inl ⟨by rfl, ?_⟩) (by assumption) ?_
 rotate_left
 ·intro w hSw
  clear hSw
  go_simp
  try with_reducible rfl
 simp only [Act.put, List.setIfInBounds_toArray, List.set_cons_zero, List.set_cons_succ]
 refine wpAnyH_take (i := 3) (oi := ⟨_, _, _, _, _, _⟩) (v := ?_) rfl (by kernel_rfl) (by kernel_rfl) (by kernel_rfl) (fun _ _ _ h => h) (Or.inl ⟨by rfl, ?_⟩) (by assumption) ?_
 rotate_left
 ·intro w hSw
  obtain ⟨s0, s1, s2, s3⟩ := hSw
  go_simp
  try with_reducible rfl
 simp only [Act.put, List.setIfInBounds_toArray, List.set_cons_zero, List.set_cons_succ]
 refine wpAnyH_take (i := 8) (oi := ⟨_, _, _, _, _, _⟩) (v := ?_) rfl (by kernel_rfl) (by kernel_rfl) (by kernel_rfl) (fun _ _ _ h => h) (Or.inl ⟨by rfl, ?_⟩) (by assumption) ?_
 rotate_left
 ·intro w hSw
  clear hSw
  go_simp
  try with_reducible rfl
 simp only [Act.put, List.setIfInBounds_toArray, List.set_cons_zero, List.set_cons_succ]
 refine wpAnyH_ready (rs := [9]) (by kernel_rfl) (by simp) ?_
 refine AllReadyH.cons (o := ⟨_, _, _, _, _, _⟩) rfl (fun K hK => ?_) AllReadyH.nil
 refine wp_store_mid _ _ _ rfl R 0 #[.int .i64 3, .int .i64 tn, .string ts, .slice none 0 0, .slice none 0 0, .slice none 0 0] rfl rfl HTH.out HINF.out (by simp [Value.oneCell']) ?_
 rw [setCells6, HW5.out]
 refine hK.out _ _ ?_ (fun hHeld => ?_)
 ·exact HSE.out
 clear hK K
 try simp only [Act.put]
 refine wpAnyH_done (by kernel_rfl) ?_ _
 refine NoPanic.normal ?_
 go_wp2
 refine bodyPost_ret (v := .agg #[.int .i64 3, .int .i64 tn, .string ts, .slice none 0 0, .slice none 0 0, .slice none 0 0]) (by simp [results, Try.results41, go_sem, *]) rfl ?_
 exact ⟨rfl, HEND.out⟩
set_option maxRecDepth 100000 in
set_option maxHeartbeats 8000000 in
theorem leaf_12 (P : Nat) (tn ta tz : Int) (ts : ByteArray) (w : World) :
  Calls Try.prog 41 #[.pointer (some ⟨P, 0, none⟩), .agg #[.int .i64 12, .int .i64 ta, .int .i64 tz, .int .i64 tn, .string ts]] w fun e w' => e = .returned (.agg #[.int .i64 4, .int .i64 tn, .string ts, .slice none 0 0, .slice none 0 0, .slice none 0 0]) ∧ Below w.heap.size w w' := by
 obtain ⟨w1, hw1⟩ : ∃ w1, w.alloc (.cells #[.int .i64 12, .int .i64 ta, .int .i64 tz, .int .i64 tn, .string ts] 47) = w1 := ⟨_, rfl⟩
 obtain ⟨w2, hw2⟩ : ∃ w2, w1.alloc (.cells #[.int .i64 0, .int .i64 0, .string ⟨#[]⟩, .slice none 0 0, .slice none 0 0, .slice none 0 0] 25) = w2 := ⟨_, rfl⟩
 obtain ⟨w3, hw3⟩ : ∃ w3, w2.alloc (.cells #[.int .i64 0, .int .i64 0, .int .i64 0, .int .i64 0, .int .i64 0, .int .i64 0, .int .i64 0, .int .i64 0, .int .i64 0, .int .i64 1, .int .i64 2, .int .i64 3, .int .i64 4, .int .i64 5] 107) = w3 := ⟨_, rfl⟩
 obtain ⟨hb1, hs1⟩ := new_below hw1
 obtain ⟨hb2, hs2⟩ := new_below hw2
 obtain ⟨hb3, hs3⟩ := new_below hw3
 have hT3 := ((Hp.new hw1).below hb2).below hb3
 have hR3 := (Hp.new hw2).below hb3
 have hA3 := Hp.new hw3
 obtain ⟨T, hT⟩ : ∃ T, w.heap.size = T := ⟨_, rfl⟩
 obtain ⟨R, hR⟩ : ∃ R, w1.heap.size = R := ⟨_, rfl⟩
 obtain ⟨A, hA⟩ : ∃ A, w2.heap.size = A := ⟨_, rfl⟩
 rw [hT] at hT3 hs1
 rw [hR] at hR3 hs1 hs2
 rw [hA] at hA3 hs2 hs3
 obtain ⟨w5, hw5⟩ : ∃ w5, set6 w3.drew R (.int .i64 4) (.int .i64 tn) (.string ts) (.slice none 0 0) (.slice none 0 0) (.slice none 0 0) = w5 := ⟨_, rfl⟩
 have hRd : Hp w3.drew R #[.int .i64 0, .int .i64 0, .string ⟨#[]⟩, .slice none 0 0, .slice none 0 0, .slice none 0 0] 25 := hR3
 have hTd : Hp w3.drew T _ _ := hT3
 have hAd : Hp w3.drew A _ _ := hA3
 have hk5 : Keep (fun k => k = R) w3.drew w5 := by rw [← hw5]; exact set6_keep _ _ _ _ _ _ _ _
 have hR5 : Hp w5 R #[.int .i64 4, .int .i64 tn, .string ts, .slice none 0 0, .slice none 0 0, .slice none 0 0] 25 := by rw [← hw5]; exact hRd.set6 _ _ _ _ _ _
 have HEND : Hid (Below w.heap.size w w5) := by
  have hb := hb1.trans ((hb2.trans (hb3.mono hb2.size)).mono hb1.size)
  exact hb.drew.trans (hk5.to_below (fun k e => by omega) (Nat.le_trans hb.size (Nat.le_refl _)))
 have HS0 : w3.drew.cell? ⟨T, 0, none⟩ = some (.int .i64 12) ∧ w3.drew.cell? ⟨T, 3, none⟩ = some (.int .i64 tn) ∧ w3.drew.cell? ⟨T, 4, none⟩ = some (.string ts) ∧ w3.drew.cell? ⟨A, 12, none⟩ = some (.int .i64 4) := ⟨hTd.cell 0 rfl, hTd.cell 3 rfl, hTd.cell 4 rfl, hAd.cell 12 rfl⟩
 have HSE : Hid (w5.cell? ⟨T, 0, none⟩ = some (.int .i64 12) ∧ w5.cell? ⟨T, 3, none⟩ = some (.int .i64 tn) ∧ w5.cell? ⟨T, 4, none⟩ = some (.string ts) ∧ w5.cell? ⟨A, 12, none⟩ = some (.int .i64 4)) := ⟨(hTd.keep hk5 (by omega)).cell 0 rfl, (hTd.keep hk5 (by omega)).cell 3 rfl, (hTd.keep hk5 (by omega)).cell 4 rfl, (hAd.keep hk5 (by omega)).cell 12 rfl⟩
 have HTH : Hid (w3.drew.there R 0 6) := hRd.there (Nat.le_refl _)
 have HINF : Hid ((Try.prog.info? 25).map (·.size) = some 6) := by show _ = _; kernel_rfl
 have HW5 := Lib.hid hw5
 have d0 := hR5.cell 0 rfl
 have d1 := hR5.cell 1 rfl
 have d2 := hR5.cell 2 rfl
 have d3 := hR5.cell 3 rfl
 have d4 := hR5.cell 4 rfl
 have d5 := hR5.cell 5 rfl
 clear hb1 hb2 hb3 hs1 hs2 hs3 hT3 hR3 hA3 hRd hTd hAd hk5 hR5 hw5
 go_enter Try.func41, Try.ntmps41
 go_wp2
 refine wp_region_noPanic ?_
 refine wp_region_held_drew (S := fun W => W.cell? ⟨T, 0, none⟩ = some (.int .i64 12) ∧ W.cell? ⟨T, 3, none⟩ = some (.int .i64 tn) ∧ W.cell? ⟨T, 4, none⟩ = some (.string ts) ∧ W.cell? ⟨A, 12, none⟩ = some (.int .i64 4)) (by kernel_rfl) HS0 (fun hHeld => ?_)
 refine wpAnyH_take (i := 0) (oi := ⟨_, _, _, _, _, _⟩) (v := ?_) rfl (by kernel_rfl) (by kernel_rfl) (by kernel_rfl) (fun _ _ _ h => h) (Or.inl ⟨by rfl, ?_⟩) (by assumption) ?_
 rotate_left
 ·intro w hSw
  clear hSw
  go_simp
  try with_reducible rfl
 simp only [Act.put, List.setIfInBounds_toArray, List.set_cons_zero, List.set_cons_succ]
 refine wpAnyH_take (i := 4) (oi := ⟨_, _, _, _, _, _⟩) (v := ?_) rfl (by kernel_rfl) (by kernel_rfl) (by kernel_rfl) (fun _ _ _ h => h) (Or.inl ⟨by rfl, ?_⟩) (by assumption) ?_
 rotate_left
 ·intro w hSw
  clear hSw
  go_simp
  try with_reducible rfl
 simp only [Act.put, List.setIfInBounds_toArray, List.set_cons_zero, List.set_cons_succ]
 refine wpAnyH_take (i := 6) (oi := ⟨_, _, _, _, _, _⟩) (v := ?_) rfl (by kernel_rfl) (by kernel_rfl) (by kernel_rfl) (fun _ _ _ h => h) (Or.inl ⟨by rfl, ?_⟩) (by assumption) ?_
 rotate_left
 ·intro w hSw
  clear hSw
  go_simp
  try with_reducible rfl
 simp only [Act.put, List.setIfInBounds_toArray, List.set_cons_zero, List.set_cons_succ]
 refine wpAnyH_take (i := 1) (oi := ⟨_, _, _, _, _, _⟩) (v := ?_) rfl (by kernel_rfl) (by kernel_rfl) (by kernel_rfl) (fun _ _ _ h => h) (Or.inl ⟨by rfl, ?_⟩) (by assumption) ?_
 rotate_left
 ·intro w hSw
  obtain ⟨s0, s1, s2, s3⟩ := hSw
  go_simp
  try with_reducible rfl
 simp only [Act.put, List.setIfInBounds_toArray, List.set_cons_zero, List.set_cons_succ]
 refine wpAnyH_take (i := 5) (oi := ⟨_, _, _, _, _, _⟩) (v := ?_) rfl (by kernel_rfl) (by kernel_rfl) (by kernel_rfl) (fun _ _ _ h => h) (Or.inl ⟨by rfl, ?_⟩) (by assumption) ?_
 rotate_left
 ·intro w hSw
  obtain ⟨s0, s1, s2, s3⟩ := hSw
  go_simp
  try with_reducible rfl
 simp only [Act.put, List.setIfInBounds_toArray, List.set_cons_zero, List.set_cons_succ]
 refine wpAnyH_take (i := 7) (oi := ⟨_, _, _, _, _, _⟩) (v := ?_) rfl (by kernel_rfl) (by kernel_rfl) (by kernel_rfl) (fun _ _ _ h => h) (Or.inl ⟨by rfl, ?_⟩) (by assumption) ?_
 rotate_left
 ·intro w hSw
  obtain ⟨s0, s1, s2, s3⟩ := hSw
  go_simp
  try with_reducible rfl
 simp only [Act.put, List.setIfInBounds_toArray, List.set_cons_zero, List.set_cons_succ]
 refine wpAnyH_take (i := 2) (oi := ⟨_, _, _, _, _, _⟩) (v := ?_) rfl (by kernel_rfl) (by kernel_rfl) (by kernel_rfl) (fun _ _ _ h => h) (Or.inl ⟨by rfl, ?_⟩) (by assumption) ?_
 rotate_left
 ·intro w hSw
  clear hSw
  go_simp
  try with_reducible rfl
 simp only [Act.put, List.setIfInBounds_toArray, List.set_cons_zero, List.set_cons_succ]
 refine wpAnyH_take (i := 3) (oi := ⟨_, _, _, _, _, _⟩) (v := ?_) rfl (by kernel_rfl) (by kernel_rfl) (by kernel_rfl) (fun _ _ _ h => h) (Or.inl ⟨by rfl, ?_⟩) (by assumption) ?_
 rotate_left
 ·intro w hSw
  obtain ⟨s0, s1, s2, s3⟩ := hSw
  go_simp
  try with_reducible rfl
 simp only [Act.put, List.setIfInBounds_toArray, List.set_cons_zero, List.set_cons_succ]
 refine wpAnyH_take (i := 8) (oi := ⟨_, _, _, _, _, _⟩) (v := ?_) rfl (by kernel_rfl) (by kernel_rfl) (by kernel_rfl) (fun _ _ _ h => h) (Or.inl ⟨by rfl, ?_⟩) (by assumption) ?_
 rotate_left
 ·intro w hSw
  clear hSw
  go_simp
  try with_reducible rfl
 simp only [Act.put, List.setIfInBounds_toArray, List.set_cons_zero, List.set_cons_succ]
 refine wpAnyH_ready (rs := [9]) (by kernel_rfl) (by simp) ?_
 refine AllReadyH.cons (o := ⟨_, _, _, _, _, _⟩) rfl (fun K hK => ?_) AllReadyH.nil
 refine wp_store_mid _ _ _ rfl R 0 #[.int .i64 4, .int .i64 tn, .string ts, .slice none 0 0, .slice none 0 0, .slice none 0 0] rfl rfl HTH.out HINF.out (by simp [Value.oneCell']) ?_
 rw [setCells6, HW5.out]
 refine hK.out _ _ ?_ (fun hHeld => ?_)
 ·exact HSE.out
 clear hK K
 try simp only [Act.put]
 refine wpAnyH_done (by kernel_rfl) ?_ _
 refine NoPanic.normal ?_
 go_wp2
 refine bodyPost_ret (v := .agg #[.int .i64 4, .int .i64 tn, .string ts, .slice none 0 0, .slice none 0 0, .slice none 0 0]) (by simp [results, Try.results41, go_sem, *]) rfl ?_
 exact ⟨rfl, HEND.out⟩
set_option maxRecDepth 100000 in
set_option maxHeartbeats 8000000 in
theorem leaf_13 (P : Nat) (tn ta tz : Int) (ts : ByteArray) (w : World) :
  Calls Try.prog 41 #[.pointer (some ⟨P, 0, none⟩), .agg #[.int .i64 13, .int .i64 ta, .int .i64 tz, .int .i64 tn, .string ts]] w fun e w' => e = .returned (.agg #[.int .i64 5, .int .i64 tn, .string ts, .slice none 0 0, .slice none 0 0, .slice none 0 0]) ∧ Below w.heap.size w w' := by
 obtain ⟨w1, hw1⟩ : ∃ w1, w.alloc (.cells #[.int .i64 13, .int .i64 ta, .int .i64 tz, .int .i64 tn, .string ts] 47) = w1 := ⟨_, rfl⟩
 obtain ⟨w2, hw2⟩ : ∃ w2, w1.alloc (.cells #[.int .i64 0, .int .i64 0, .string ⟨#[]⟩, .slice none 0 0, .slice none 0 0, .slice none 0 0] 25) = w2 := ⟨_, rfl⟩
 obtain ⟨w3, hw3⟩ : ∃ w3, w2.alloc (.cells #[.int .i64 0, .int .i64 0, .int .i64 0, .int .i64 0, .int .i64 0, .int .i64 0, .int .i64 0, .int .i64 0, .int .i64 0, .int .i64 1, .int .i64 2, .int .i64 3, .int .i64 4, .int .i64 5] 107) = w3 := ⟨_, rfl⟩
 obtain ⟨hb1, hs1⟩ := new_below hw1
 obtain ⟨hb2, hs2⟩ := new_below hw2
 obtain ⟨hb3, hs3⟩ := new_below hw3
 have hT3 := ((Hp.new hw1).below hb2).below hb3
 have hR3 := (Hp.new hw2).below hb3
 have hA3 := Hp.new hw3
 obtain ⟨T, hT⟩ : ∃ T, w.heap.size = T := ⟨_, rfl⟩
 obtain ⟨R, hR⟩ : ∃ R, w1.heap.size = R := ⟨_, rfl⟩
 obtain ⟨A, hA⟩ : ∃ A, w2.heap.size = A := ⟨_, rfl⟩
 rw [hT] at hT3 hs1
 rw [hR] at hR3 hs1 hs2
 rw [hA] at hA3 hs2 hs3
 obtain ⟨w5, hw5⟩ : ∃ w5, set6 w3.drew R (.int .i64 5) (.int .i64 tn) (.string ts) (.slice none 0 0) (.slice none 0 0) (.slice none 0 0) = w5 := ⟨_, rfl⟩
 have hRd : Hp w3.drew R #[.int .i64 0, .int .i64 0, .string ⟨#[]⟩, .slice none 0 0, .slice none 0 0, .slice none 0 0] 25 := hR3
 have hTd : Hp w3.drew T _ _ := hT3
 have hAd : Hp w3.drew A _ _ := hA3
 have hk5 : Keep (fun k => k = R) w3.drew w5 := by rw [← hw5]; exact set6_keep _ _ _ _ _ _ _ _
 have hR5 : Hp w5 R #[.int .i64 5, .int .i64 tn, .string ts, .slice none 0 0, .slice none 0 0, .slice none 0 0] 25 := by rw [← hw5]; exact hRd.set6 _ _ _ _ _ _
 have HEND : Hid (Below w.heap.size w w5) := by
  have hb := hb1.trans ((hb2.trans (hb3.mono hb2.size)).mono hb1.size)
  exact hb.drew.trans (hk5.to_below (fun k e => by omega) (Nat.le_trans hb.size (Nat.le_refl _)))
 have HS0 : w3.drew.cell? ⟨T, 0, none⟩ = some (.int .i64 13) ∧ w3.drew.cell? ⟨T, 3, none⟩ = some (.int .i64 tn) ∧ w3.drew.cell? ⟨T, 4, none⟩ = some (.string ts) ∧ w3.drew.cell? ⟨A, 13, none⟩ = some (.int .i64 5) := ⟨hTd.cell 0 rfl, hTd.cell 3 rfl, hTd.cell 4 rfl, hAd.cell 13 rfl⟩
 have HSE : Hid (w5.cell? ⟨T, 0, none⟩ = some (.int .i64 13) ∧ w5.cell? ⟨T, 3, none⟩ = some (.int .i64 tn) ∧ w5.cell? ⟨T, 4, none⟩ = some (.string ts) ∧ w5.cell? ⟨A, 13, none⟩ = some (.int .i64 5)) := ⟨(hTd.keep hk5 (by omega)).cell 0 rfl, (hTd.keep hk5 (by omega)).cell 3 rfl, (hTd.keep hk5 (by omega)).cell 4 rfl, (hAd.keep hk5 (by omega)).cell 13 rfl⟩
 have HTH : Hid (w3.drew.there R 0 6) := hRd.there (Nat.le_refl _)
 have HINF : Hid ((Try.prog.info? 25).map (·.size) = some 6) := by show _ = _; kernel_rfl
 have HW5 := Lib.hid hw5
 have d0 := hR5.cell 0 rfl
 have d1 := hR5.cell 1 rfl
 have d2 := hR5.cell 2 rfl
 have d3 := hR5.cell 3 rfl
 have d4 := hR5.cell 4 rfl
 have d5 := hR5.cell 5 rfl
 clear hb1 hb2 hb3 hs1 hs2 hs3 hT3 hR3 hA3 hRd hTd hAd hk5 hR5 hw5
 go_enter Try.func41, Try.ntmps41
 go_wp2
 refine wp_region_noPanic ?_
 refine wp_region_held_drew (S := fun W => W.cell? ⟨T, 0, none⟩ = some (.int .i64 13) ∧ W.cell? ⟨T, 3, none⟩ = some (.int .i64 tn) ∧ W.cell? ⟨T, 4, none⟩ = some (.string ts) ∧ W.cell? ⟨A, 13, none⟩ = some (.int .i64 5)) (by kernel_rfl) HS0 (fun hHeld => ?_)
 refine wpAnyH_take (i := 0) (oi := ⟨_, _, _, _, _, _⟩) (v := ?_) rfl (by kernel_rfl) (by kernel_rfl) (by kernel_rfl) (fun _ _ _ h => h) (Or.inl ⟨by rfl, ?_⟩) (by assumption) ?_
 rotate_left
 ·intro w hSw
  clear hSw
  go_simp
  try with_reducible rfl
 simp only [Act.put, List.setIfInBounds_toArray, List.set_cons_zero, List.set_cons_succ]
 refine wpAnyH_take (i := 4) (oi := ⟨_, _, _, _, _, _⟩) (v := ?_) rfl (by kernel_rfl) (by kernel_rfl) (by kernel_rfl) (fun _ _ _ h => h) (Or.inl ⟨by rfl, ?_⟩) (by assumption) ?_
 rotate_left
 ·intro w hSw
  clear hSw
  go_simp
  try with_reducible rfl
 simp only [Act.put, List.setIfInBounds_toArray, List.set_cons_zero, List.set_cons_succ]
 refine wpAnyH_take (i := 6) (oi := ⟨_, _, _, _, _, _⟩) (v := ?_) rfl (by kernel_rfl) (by kernel_rfl) (by kernel_rfl) (fun _ _ _ h => h) (Or.inl ⟨by rfl, ?_⟩) (by assumption) ?_
 rotate_left
 ·intro w hSw
  clear hSw
  go_simp
  try with_reducible rfl
 simp only [Act.put, List.setIfInBounds_toArray, List.set_cons_zero, List.set_cons_succ]
 refine wpAnyH_take (i := 1) (oi := ⟨_, _, _, _, _, _⟩) (v := ?_) rfl (by kernel_rfl) (by kernel_rfl) (by kernel_rfl) (fun _ _ _ h => h) (Or.inl ⟨by rfl, ?_⟩) (by assumption) ?_
 rotate_left
 ·intro w hSw
  obtain ⟨s0, s1, s2, s3⟩ := hSw
  go_simp
  try with_reducible rfl
 simp only [Act.put, List.setIfInBounds_toArray, List.set_cons_zero, List.set_cons_succ]
 refine wpAnyH_take (i := 5) (oi := ⟨_, _, _, _, _, _⟩) (v := ?_) rfl (by kernel_rfl) (by kernel_rfl) (by kernel_rfl) (fun _ _ _ h => h) (Or.inl ⟨by rfl, ?_⟩) (by assumption) ?_
 rotate_left
 ·intro w hSw
  obtain ⟨s0, s1, s2, s3⟩ := hSw
  go_simp
  try with_reducible rfl
 simp only [Act.put, List.setIfInBounds_toArray, List.set_cons_zero, List.set_cons_succ]
 refine wpAnyH_take (i := 7) (oi := ⟨_, _, _, _, _, _⟩) (v := ?_) rfl (by kernel_rfl) (by kernel_rfl) (by kernel_rfl) (fun _ _ _ h => h) (Or.inl ⟨by rfl, ?_⟩) (by assumption) ?_
 rotate_left
 ·intro w hSw
  obtain ⟨s0, s1, s2, s3⟩ := hSw
  go_simp
  try with_reducible rfl
 simp only [Act.put, List.setIfInBounds_toArray, List.set_cons_zero, List.set_cons_succ]
 refine wpAnyH_take (i := 2) (oi := ⟨_, _, _, _, _, _⟩) (v := ?_) rfl (by kernel_rfl) (by kernel_rfl) (by kernel_rfl) (fun _ _ _ h => h) (Or.inl ⟨by rfl, ?_⟩) (by assumption) ?_
 rotate_left
 ·intro w hSw
  clear hSw
  go_simp
  try with_reducible rfl
 simp only [Act.put, List.setIfInBounds_toArray, List.set_cons_zero, List.set_cons_succ]
 refine wpAnyH_take (i := 3) (oi := ⟨_, _, _, _, _, _⟩) (v := ?_) rfl (by kernel_rfl) (by kernel_rfl) (by kernel_rfl) (fun _ _ _ h => h) (Or.inl ⟨by rfl, ?_⟩) (by assumption) ?_
 rotate_left
 ·intro w hSw
  obtain ⟨s0, s1, s2, s3⟩ := hSw
  go_simp
  try with_reducible rfl
 simp only [Act.put, List.setIfInBounds_toArray, List.set_cons_zero, List.set_cons_succ]
 refine wpAnyH_take (i := 8) (oi := ⟨_, _, _, _, _, _⟩) (v := ?_) rfl (by kernel_rfl) (by kernel_rfl) (by kernel_rfl) (fun _ _ _ h => h) (Or.inl ⟨by rfl, ?_⟩) (by assumption) ?_
 rotate_left
 ·intro w hSw
  clear hSw
  go_simp
  try with_reducible rfl
 simp only [Act.put, List.setIfInBounds_toArray, List.set_cons_zero, List.set_cons_succ]
 refine wpAnyH_ready (rs := [9]) (by kernel_rfl) (by simp) ?_
 refine AllReadyH.cons (o := ⟨_, _, _, _, _, _⟩) rfl (fun K hK => ?_) AllReadyH.nil
 refine wp_store_mid _ _ _ rfl R 0 #[.int .i64 5, .int .i64 tn, .string ts, .slice none 0 0, .slice none 0 0, .slice none 0 0] rfl rfl HTH.out HINF.out (by simp [Value.oneCell']) ?_
 rw [setCells6, HW5.out]
 refine hK.out _ _ ?_ (fun hHeld => ?_)
 ·exact HSE.out
 clear hK K
 try simp only [Act.put]
 refine wpAnyH_done (by kernel_rfl) ?_ _
 refine NoPanic.normal ?_
 go_wp2
 refine bodyPost_ret (v := .agg #[.int .i64 5, .int .i64 tn, .string ts, .slice none 0 0, .slice none 0 0, .slice none 0 0]) (by simp [results, Try.results41, go_sem, *]) rfl ?_
 exact ⟨rfl, HEND.out⟩
end Go.Proofs.Ytcopdfihaheplaa
namespace Go.Proofs.Ytcopdfihaheplaa
open Go.RowKit
attribute [local go_sem] Oper.semAt_some
namespace Rd
open Dt Lx
theorem Out.of_fail {P tb C : Nat} {xs rest : List PTok} {w w' : World} {e : Ending} {b : Nat} {c : Int} (h : FailPost P tb C xs rest (b : Int) c w e w') (hc : c ≠ 0) : Out P tb C xs w (.bad b c) e w' := by
 obtain ⟨rfl, h1, h2⟩ := h
 exact ⟨.mk 0 0 ⟨#[]⟩ [] [] [], _, _, _, rest, b, c, rfl, rep_zero _ _, .inl rfl, h1, h2, .inr ⟨b, c, rfl, rfl, rfl, hc⟩⟩
theorem Out.of_leaf {P tb C : Nat} {xs rest : List PTok} {w w' : World} {t : Tok} {e : Ending} (h : St w P tb C xs rest 0 0) (he : e = .returned (.agg #[.int .i64 (t.k - 8), .int .i64 t.n, .string ⟨t.s.toArray⟩, .slice none 0 0, .slice none 0 0, .slice none 0 0])) (hb : Below w.heap.size w w') : Out P tb C xs w (.ok (leafD t) rest) e w' := by
 subst he
 exact ⟨leafD t, _, _, _, rest, 0, 0, rfl, (rep_iff _ _ _ _ _ _).2 ⟨⟨none, 0, rfl, Nat.le_refl _, fun h => absurd rfl h⟩, ⟨none, 0, rfl, Nat.le_refl _, fun h => absurd rfl h⟩, ⟨none, 0, rfl, Nat.le_refl _, fun h => absurd rfl h⟩⟩, .inl rfl, h.below hb, keep_of_below hb, .inl ⟨rfl, rfl, rfl⟩⟩
end Rd
set_option maxRecDepth 100000 in
set_option maxHeartbeats 8000000 in
theorem datum_1 (P tb C : Nat) (xs : List Lx.PTok) (hG : Rd.G P tb C xs) (t : Lx.PTok) (r : List Lx.PTok) (w : World) (hk : t.t.k = 1) (RES : Rd.Res) (hcal : ∀ W, Rd.Src W tb xs → Rd.St W P tb C xs r 0 0 → Calls Try.prog 42 #[.pointer (some ⟨P, 0, none⟩), Rd.tokV t] W (Rd.Out P tb C xs W RES)) (hSrc : Rd.Src w tb xs) (hSt : Rd.St w P tb C xs (t :: r) 0 0) :
  Calls Try.prog 28 #[.pointer (some ⟨P, 0, none⟩)] w (Rd.Out P tb C xs w RES) := by
 have HCAL := Lib.hid hcal
 have hTV : Rd.tokV t = .agg #[.int .i64 1, .int .i64 (t.at_ : Int), .int .i64 (t.to : Int), .int .i64 t.t.n, .string ⟨t.t.s.toArray⟩] := by unfold Rd.tokV; rw [hk]
 obtain ⟨tn, htn⟩ : ∃ tn, t.t.n = tn := ⟨_, rfl⟩
 obtain ⟨ts, hts⟩ : ∃ ts : ByteArray, ⟨t.t.s.toArray⟩ = ts := ⟨_, rfl⟩
 obtain ⟨ta, hta⟩ : ∃ ta : Int, (t.at_ : Int) = ta := ⟨_, rfl⟩
 obtain ⟨tz, hto⟩ : ∃ tz : Int, (t.to : Int) = tz := ⟨_, rfl⟩
 rw [htn, hts, hta, hto] at hTV
 have HTV := Lib.hid hTV
 obtain ⟨w1, hw1⟩ : ∃ w1, w.alloc (.cells #[.int .i64 0, .int .i64 0, .string ⟨#[]⟩, .slice none 0 0, .slice none 0 0, .slice none 0 0] 25) = w1 := ⟨_, rfl⟩
 obtain ⟨hb1, hs1⟩ := new_below hw1
 have hR1 := Hp.new hw1
 have hPl := hSt.lt
 have hnx := next_yes P tb C xs t r 0 0 w1 (hSrc.below hb1) (hSt.below hb1) hG.cap hG.few hG.C2
 obtain ⟨R, hR⟩ : ∃ R, w.heap.size = R := ⟨_, rfl⟩
 rw [hR] at hR1 hPl hs1
 have HN : Hid (P < R ∧ w1.heap.size = R + 1 ∧ w.heap.size = R) := ⟨hPl, hs1, hR⟩
 have HSRC1 := Lib.hid (hSrc.below hb1)
 have HR1 := Lib.hid hR1
 have HK1 : Hid (Keep (fun k => k = P) w w1) := keep_of_below hb1
 have HG := Lib.hid hG
 clear hcal hTV htn hts hta hto hb1 hs1 hR1 hPl hSrc hSt hG hk
 go_enter Try.func28, Try.ntmps28
 go_wp2_with fail
 refine hnx.mono ?_
 rintro e w2 ⟨rfl, hst2, hk2⟩
 rw [HTV.out]
 obtain ⟨w3, hw3⟩ : ∃ w3, w2.alloc (.cells #[.int .i64 1, .int .i64 ta, .int .i64 tz, .int .i64 tn, .string ts] 47) = w3 := ⟨_, rfl⟩
 obtain ⟨hb3, hs3⟩ := new_below hw3
 have hT3 := Hp.new hw3
 have hR3 := (HR1.out.keep hk2 (by have := HN.out; omega)).below hb3
 have hcal3 := HCAL.out w3 ((HSRC1.out.keep hk2 (fun e => HG.out.ne e.symm)).below hb3) (hst2.below hb3)
 rw [HTV.out] at hcal3
 obtain ⟨T, hT⟩ : ∃ T, w2.heap.size = T := ⟨_, rfl⟩
 rw [hT] at hT3
 have HR3 := Lib.hid hR3
 have HK3 : Hid (Keep (fun k => k = P) w w3) := (HK1.out.trans hk2).trans (keep_of_below hb3)
 have y0 := hT3.cell 0 rfl
 have y1 := hT3.cell 1 rfl
 have y2 := hT3.cell 2 rfl
 have y3 := hT3.cell 3 rfl
 have y4 := hT3.cell 4 rfl
 clear hnx hst2 hk2 hb3 hs3 hT3 hR3 hw1
 go_wp2_with fail
 refine hcal3.mono ?_
 rintro e w5 ⟨y, vm, vl, vt, rest, a2, e2, rfl, hr5, hz5, hst5, hk5, hsay⟩
 obtain ⟨b1, m1, p1, b2, m2, p2, b3, m3, p3, rfl, rfl, rfl⟩ := hr5.forms
 have hR5 := HR3.out.keep hk5 (by have := HN.out; omega)
 have HE := Lib.hid (Rd.Out.fin (x := y) (HK3.out.trans hk5) (R := R) (by have := HN.out; omega) (by have := HN.out; omega) (Dt.Rep.mono (fun j hj _ => by have h1 := HN.out; have h2 := HR3.out.lt; omega) y hr5) hz5 hst5 hsay)
 have r0 := hR5.cell 0 rfl
 have r1 := hR5.cell 1 rfl
 have r2 := hR5.cell 2 rfl
 have r3 := hR5.cell 3 rfl
 have r4 := hR5.cell 4 rfl
 have r5 := hR5.cell 5 rfl
 have k0 := hR5.frz 0
 have k1 := hR5.frz 1
 have k2 := hR5.frz 2
 have k3 := hR5.frz 3
 have k4 := hR5.frz 4
 have k5 := hR5.frz 5
 clear hcal3 hr5 hz5 hst5 hk5 hsay hR5 y0 y1 y2 y3 y4 hw3
 go_wp2
 refine bodyPost_ret (v := .agg #[.int .i64 y.k, .int .i64 y.n, .string y.s, .slice b1 m1 p1, .slice b2 m2 p2, .slice b3 m3 p3]) (by simp [results, Try.results28, go_sem, *]) rfl ?_
 exact HE.out
set_option maxRecDepth 100000 in
set_option maxHeartbeats 8000000 in
theorem datum_2 (P tb C : Nat) (xs : List Lx.PTok) (hG : Rd.G P tb C xs) (t : Lx.PTok) (r : List Lx.PTok) (w : World) (hk : t.t.k = 2) (RES : Rd.Res) (hcal : ∀ W, Rd.Src W tb xs → Rd.St W P tb C xs r 0 0 → Calls Try.prog 44 #[.pointer (some ⟨P, 0, none⟩), Rd.tokV t] W (Rd.Out P tb C xs W RES)) (hSrc : Rd.Src w tb xs) (hSt : Rd.St w P tb C xs (t :: r) 0 0) :
  Calls Try.prog 28 #[.pointer (some ⟨P, 0, none⟩)] w (Rd.Out P tb C xs w RES) := by
 have HCAL := Lib.hid hcal
 have hTV : Rd.tokV t = .agg #[.int .i64 2, .int .i64 (t.at_ : Int), .int .i64 (t.to : Int), .int .i64 t.t.n, .string ⟨t.t.s.toArray⟩] := by unfold Rd.tokV; rw [hk]
 obtain ⟨tn, htn⟩ : ∃ tn, t.t.n = tn := ⟨_, rfl⟩
 obtain ⟨ts, hts⟩ : ∃ ts : ByteArray, ⟨t.t.s.toArray⟩ = ts := ⟨_, rfl⟩
 obtain ⟨ta, hta⟩ : ∃ ta : Int, (t.at_ : Int) = ta := ⟨_, rfl⟩
 obtain ⟨tz, hto⟩ : ∃ tz : Int, (t.to : Int) = tz := ⟨_, rfl⟩
 rw [htn, hts, hta, hto] at hTV
 have HTV := Lib.hid hTV
 obtain ⟨w1, hw1⟩ : ∃ w1, w.alloc (.cells #[.int .i64 0, .int .i64 0, .string ⟨#[]⟩, .slice none 0 0, .slice none 0 0, .slice none 0 0] 25) = w1 := ⟨_, rfl⟩
 obtain ⟨hb1, hs1⟩ := new_below hw1
 have hR1 := Hp.new hw1
 have hPl := hSt.lt
 have hnx := next_yes P tb C xs t r 0 0 w1 (hSrc.below hb1) (hSt.below hb1) hG.cap hG.few hG.C2
 obtain ⟨R, hR⟩ : ∃ R, w.heap.size = R := ⟨_, rfl⟩
 rw [hR] at hR1 hPl hs1
 have HN : Hid (P < R ∧ w1.heap.size = R + 1 ∧ w.heap.size = R) := ⟨hPl, hs1, hR⟩
 have HSRC1 := Lib.hid (hSrc.below hb1)
 have HR1 := Lib.hid hR1
 have HK1 : Hid (Keep (fun k => k = P) w w1) := keep_of_below hb1
 have HG := Lib.hid hG
 clear hcal hTV htn hts hta hto hb1 hs1 hR1 hPl hSrc hSt hG hk
 go_enter Try.func28, Try.ntmps28
 go_wp2_with fail
 refine hnx.mono ?_
 rintro e w2 ⟨rfl, hst2, hk2⟩
 rw [HTV.out]
 obtain ⟨w3, hw3⟩ : ∃ w3, w2.alloc (.cells #[.int .i64 2, .int .i64 ta, .int .i64 tz, .int .i64 tn, .string ts] 47) = w3 := ⟨_, rfl⟩
 obtain ⟨hb3, hs3⟩ := new_below hw3
 have hT3 := Hp.new hw3
 have hR3 := (HR1.out.keep hk2 (by have := HN.out; omega)).below hb3
 have hcal3 := HCAL.out w3 ((HSRC1.out.keep hk2 (fun e => HG.out.ne e.symm)).below hb3) (hst2.below hb3)
 rw [HTV.out] at hcal3
 obtain ⟨T, hT⟩ : ∃ T, w2.heap.size = T := ⟨_, rfl⟩
 rw [hT] at hT3
 have HR3 := Lib.hid hR3
 have HK3 : Hid (Keep (fun k => k = P) w w3) := (HK1.out.trans hk2).trans (keep_of_below hb3)
 have y0 := hT3.cell 0 rfl
 have y1 := hT3.cell 1 rfl
 have y2 := hT3.cell 2 rfl
 have y3 := hT3.cell 3 rfl
 have y4 := hT3.cell 4 rfl
 clear hnx hst2 hk2 hb3 hs3 hT3 hR3 hw1
 go_wp2_with fail
 refine hcal3.mono ?_
 rintro e w5 ⟨y, vm, vl, vt, rest, a2, e2, rfl, hr5, hz5, hst5, hk5, hsay⟩
 obtain ⟨b1, m1, p1, b2, m2, p2, b3, m3, p3, rfl, rfl, rfl⟩ := hr5.forms
 have hR5 := HR3.out.keep hk5 (by have := HN.out; omega)
 have HE := Lib.hid (Rd.Out.fin (x := y) (HK3.out.trans hk5) (R := R) (by have := HN.out; omega) (by have := HN.out; omega) (Dt.Rep.mono (fun j hj _ => by have h1 := HN.out; have h2 := HR3.out.lt; omega) y hr5) hz5 hst5 hsay)
 have r0 := hR5.cell 0 rfl
 have r1 := hR5.cell 1 rfl
 have r2 := hR5.cell 2 rfl
 have r3 := hR5.cell 3 rfl
 have r4 := hR5.cell 4 rfl
 have r5 := hR5.cell 5 rfl
 have k0 := hR5.frz 0
 have k1 := hR5.frz 1
 have k2 := hR5.frz 2
 have k3 := hR5.frz 3
 have k4 := hR5.frz 4
 have k5 := hR5.frz 5
 clear hcal3 hr5 hz5 hst5 hk5 hsay hR5 y0 y1 y2 y3 y4 hw3
 go_wp2
 refine bodyPost_ret (v := .agg #[.int .i64 y.k, .int .i64 y.n, .string y.s, .slice b1 m1 p1, .slice b2 m2 p2, .slice b3 m3 p3]) (by simp [results, Try.results28, go_sem, *]) rfl ?_
 exact HE.out
set_option maxRecDepth 100000 in
set_option maxHeartbeats 8000000 in
theorem datum_3 (P tb C : Nat) (xs : List Lx.PTok) (hG : Rd.G P tb C xs) (t : Lx.PTok) (r : List Lx.PTok) (w : World) (hk : t.t.k = 3) (RES : Rd.Res) (hcal : ∀ W, Rd.Src W tb xs → Rd.St W P tb C xs r 0 0 → Calls Try.prog 43 #[.pointer (some ⟨P, 0, none⟩), Rd.tokV t] W (Rd.Out P tb C xs W RES)) (hSrc : Rd.Src w tb xs) (hSt : Rd.St w P tb C xs (t :: r) 0 0) :
  Calls Try.prog 28 #[.pointer (some ⟨P, 0, none⟩)] w (Rd.Out P tb C xs w RES) := by
 have HCAL := Lib.hid hcal
 have hTV : Rd.tokV t = .agg #[.int .i64 3, .int .i64 (t.at_ : Int), .int .i64 (t.to : Int), .int .i64 t.t.n, .string ⟨t.t.s.toArray⟩] := by unfold Rd.tokV; rw [hk]
 obtain ⟨tn, htn⟩ : ∃ tn, t.t.n = tn := ⟨_, rfl⟩
 obtain ⟨ts, hts⟩ : ∃ ts : ByteArray, ⟨t.t.s.toArray⟩ = ts := ⟨_, rfl⟩
 obtain ⟨ta, hta⟩ : ∃ ta : Int, (t.at_ : Int) = ta := ⟨_, rfl⟩
 obtain ⟨tz, hto⟩ : ∃ tz : Int, (t.to : Int) = tz := ⟨_, rfl⟩
 rw [htn, hts, hta, hto] at hTV
 have HTV := Lib.hid hTV
 obtain ⟨w1, hw1⟩ : ∃ w1, w.alloc (.cells #[.int .i64 0, .int .i64 0, .string ⟨#[]⟩, .slice none 0 0, .slice none 0 0, .slice none 0 0] 25) = w1 := ⟨_, rfl⟩
 obtain ⟨hb1, hs1⟩ := new_below hw1
 have hR1 := Hp.new hw1
 have hPl := hSt.lt
 have hnx := next_yes P tb C xs t r 0 0 w1 (hSrc.below hb1) (hSt.below hb1) hG.cap hG.few hG.C2
 obtain ⟨R, hR⟩ : ∃ R, w.heap.size = R := ⟨_, rfl⟩
 rw [hR] at hR1 hPl hs1
 have HN : Hid (P < R ∧ w1.heap.size = R + 1 ∧ w.heap.size = R) := ⟨hPl, hs1, hR⟩
 have HSRC1 := Lib.hid (hSrc.below hb1)
 have HR1 := Lib.hid hR1
 have HK1 : Hid (Keep (fun k => k = P) w w1) := keep_of_below hb1
 have HG := Lib.hid hG
 clear hcal hTV htn hts hta hto hb1 hs1 hR1 hPl hSrc hSt hG hk
 go_enter Try.func28, Try.ntmps28
 go_wp2_with fail
 refine hnx.mono ?_
 rintro e w2 ⟨rfl, hst2, hk2⟩
 rw [HTV.out]
 obtain ⟨w3, hw3⟩ : ∃ w3, w2.alloc (.cells #[.int .i64 3, .int .i64 ta, .int .i64 tz, .int .i64 tn, .string ts] 47) = w3 := ⟨_, rfl⟩
 obtain ⟨hb3, hs3⟩ := new_below hw3
 have hT3 := Hp.new hw3
 have hR3 := (HR1.out.keep hk2 (by have := HN.out; omega)).below hb3
 have hcal3 := HCAL.out w3 ((HSRC1.out.keep hk2 (fun e => HG.out.ne e.symm)).below hb3) (hst2.below hb3)
 rw [HTV.out] at hcal3
 obtain ⟨T, hT⟩ : ∃ T, w2.heap.size = T := ⟨_, rfl⟩
 rw [hT] at hT3
 have HR3 := Lib.hid hR3
 have HK3 : Hid (Keep (fun k => k = P) w w3) := (HK1.out.trans hk2).trans (keep_of_below hb3)
 have y0 := hT3.cell 0 rfl
 have y1 := hT3.cell 1 rfl
 have y2 := hT3.cell 2 rfl
 have y3 := hT3.cell 3 rfl
 have y4 := hT3.cell 4 rfl
 clear hnx hst2 hk2 hb3 hs3 hT3 hR3 hw1
 go_wp2_with fail
 refine hcal3.mono ?_
 rintro e w5 ⟨y, vm, vl, vt, rest, a2, e2, rfl, hr5, hz5, hst5, hk5, hsay⟩
 obtain ⟨b1, m1, p1, b2, m2, p2, b3, m3, p3, rfl, rfl, rfl⟩ := hr5.forms
 have hR5 := HR3.out.keep hk5 (by have := HN.out; omega)
 have HE := Lib.hid (Rd.Out.fin (x := y) (HK3.out.trans hk5) (R := R) (by have := HN.out; omega) (by have := HN.out; omega) (Dt.Rep.mono (fun j hj _ => by have h1 := HN.out; have h2 := HR3.out.lt; omega) y hr5) hz5 hst5 hsay)
 have r0 := hR5.cell 0 rfl
 have r1 := hR5.cell 1 rfl
 have r2 := hR5.cell 2 rfl
 have r3 := hR5.cell 3 rfl
 have r4 := hR5.cell 4 rfl
 have r5 := hR5.cell 5 rfl
 have k0 := hR5.frz 0
 have k1 := hR5.frz 1
 have k2 := hR5.frz 2
 have k3 := hR5.frz 3
 have k4 := hR5.frz 4
 have k5 := hR5.frz 5
 clear hcal3 hr5 hz5 hst5 hk5 hsay hR5 y0 y1 y2 y3 y4 hw3
 go_wp2
 refine bodyPost_ret (v := .agg #[.int .i64 y.k, .int .i64 y.n, .string y.s, .slice b1 m1 p1, .slice b2 m2 p2, .slice b3 m3 p3]) (by simp [results, Try.results28, go_sem, *]) rfl ?_
 exact HE.out
set_option maxRecDepth 100000 in
set_option maxHeartbeats 8000000 in
theorem datum_4 (P tb C : Nat) (xs : List Lx.PTok) (hG : Rd.G P tb C xs) (t : Lx.PTok) (r : List Lx.PTok) (w : World) (hk : t.t.k = 4) (RES : Rd.Res) (hcal : ∀ W, Rd.Src W tb xs → Rd.St W P tb C xs r 0 0 → Calls Try.prog 45 #[.pointer (some ⟨P, 0, none⟩), Rd.tokV t] W (Rd.Out P tb C xs W RES)) (hSrc : Rd.Src w tb xs) (hSt : Rd.St w P tb C xs (t :: r) 0 0) :
  Calls Try.prog 28 #[.pointer (some ⟨P, 0, none⟩)] w (Rd.Out P tb C xs w RES) := by
 have HCAL := Lib.hid hcal
 have hTV : Rd.tokV t = .agg #[.int .i64 4, .int .i64 (t.at_ : Int), .int .i64 (t.to : Int), .int .i64 t.t.n, .string ⟨t.t.s.toArray⟩] := by unfold Rd.tokV; rw [hk]
 obtain ⟨tn, htn⟩ : ∃ tn, t.t.n = tn := ⟨_, rfl⟩
 obtain ⟨ts, hts⟩ : ∃ ts : ByteArray, ⟨t.t.s.toArray⟩ = ts := ⟨_, rfl⟩
 obtain ⟨ta, hta⟩ : ∃ ta : Int, (t.at_ : Int) = ta := ⟨_, rfl⟩
 obtain ⟨tz, hto⟩ : ∃ tz : Int, (t.to : Int) = tz := ⟨_, rfl⟩
 rw [htn, hts, hta, hto] at hTV
 have HTV := Lib.hid hTV
 obtain ⟨w1, hw1⟩ : ∃ w1, w.alloc (.cells #[.int .i64 0, .int .i64 0, .string ⟨#[]⟩, .slice none 0 0, .slice none 0 0, .slice none 0 0] 25) = w1 := ⟨_, rfl⟩
 obtain ⟨hb1, hs1⟩ := new_below hw1
 have hR1 := Hp.new hw1
 have hPl := hSt.lt
 have hnx := next_yes P tb C xs t r 0 0 w1 (hSrc.below hb1) (hSt.below hb1) hG.cap hG.few hG.C2
 obtain ⟨R, hR⟩ : ∃ R, w.heap.size = R := ⟨_, rfl⟩
 rw [hR] at hR1 hPl hs1
 have HN : Hid (P < R ∧ w1.heap.size = R + 1 ∧ w.heap.size = R) := ⟨hPl, hs1, hR⟩
 have HSRC1 := Lib.hid (hSrc.below hb1)
 have HR1 := Lib.hid hR1
 have HK1 : Hid (Keep (fun k => k = P) w w1) := keep_of_below hb1
 have HG := Lib.hid hG
 clear hcal hTV htn hts hta hto hb1 hs1 hR1 hPl hSrc hSt hG hk
 go_enter Try.func28, Try.ntmps28
 go_wp2_with fail
 refine hnx.mono ?_
 rintro e w2 ⟨rfl, hst2, hk2⟩
 rw [HTV.out]
 obtain ⟨w3, hw3⟩ : ∃ w3, w2.alloc (.cells #[.int .i64 4, .int .i64 ta, .int .i64 tz, .int .i64 tn, .string ts] 47) = w3 := ⟨_, rfl⟩
 obtain ⟨hb3, hs3⟩ := new_below hw3
 have hT3 := Hp.new hw3
 have hR3 := (HR1.out.keep hk2 (by have := HN.out; omega)).below hb3
 have hcal3 := HCAL.out w3 ((HSRC1.out.keep hk2 (fun e => HG.out.ne e.symm)).below hb3) (hst2.below hb3)
 rw [HTV.out] at hcal3
 obtain ⟨T, hT⟩ : ∃ T, w2.heap.size = T := ⟨_, rfl⟩
 rw [hT] at hT3
 have HR3 := Lib.hid hR3
 have HK3 : Hid (Keep (fun k => k = P) w w3) := (HK1.out.trans hk2).trans (keep_of_below hb3)
 have y0 := hT3.cell 0 rfl
 have y1 := hT3.cell 1 rfl
 have y2 := hT3.cell 2 rfl
 have y3 := hT3.cell 3 rfl
 have y4 := hT3.cell 4 rfl
 clear hnx hst2 hk2 hb3 hs3 hT3 hR3 hw1
 go_wp2_with fail
 refine hcal3.mono ?_
 rintro e w5 ⟨y, vm, vl, vt, rest, a2, e2, rfl, hr5, hz5, hst5, hk5, hsay⟩
 obtain ⟨b1, m1, p1, b2, m2, p2, b3, m3, p3, rfl, rfl, rfl⟩ := hr5.forms
 have hR5 := HR3.out.keep hk5 (by have := HN.out; omega)
 have HE := Lib.hid (Rd.Out.fin (x := y) (HK3.out.trans hk5) (R := R) (by have := HN.out; omega) (by have := HN.out; omega) (Dt.Rep.mono (fun j hj _ => by have h1 := HN.out; have h2 := HR3.out.lt; omega) y hr5) hz5 hst5 hsay)
 have r0 := hR5.cell 0 rfl
 have r1 := hR5.cell 1 rfl
 have r2 := hR5.cell 2 rfl
 have r3 := hR5.cell 3 rfl
 have r4 := hR5.cell 4 rfl
 have r5 := hR5.cell 5 rfl
 have k0 := hR5.frz 0
 have k1 := hR5.frz 1
 have k2 := hR5.frz 2
 have k3 := hR5.frz 3
 have k4 := hR5.frz 4
 have k5 := hR5.frz 5
 clear hcal3 hr5 hz5 hst5 hk5 hsay hR5 y0 y1 y2 y3 y4 hw3
 go_wp2
 refine bodyPost_ret (v := .agg #[.int .i64 y.k, .int .i64 y.n, .string y.s, .slice b1 m1 p1, .slice b2 m2 p2, .slice b3 m3 p3]) (by simp [results, Try.results28, go_sem, *]) rfl ?_
 exact HE.out
set_option maxRecDepth 100000 in
set_option maxHeartbeats 8000000 in
theorem datum_5 (P tb C : Nat) (xs : List Lx.PTok) (hG : Rd.G P tb C xs) (t : Lx.PTok) (r : List Lx.PTok) (w : World) (hk : t.t.k = 5) (RES : Rd.Res) (hcal : ∀ W, Rd.Src W tb xs → Rd.St W P tb C xs r 0 0 → Calls Try.prog 45 #[.pointer (some ⟨P, 0, none⟩), Rd.tokV t] W (Rd.Out P tb C xs W RES)) (hSrc : Rd.Src w tb xs) (hSt : Rd.St w P tb C xs (t :: r) 0 0) :
  Calls Try.prog 28 #[.pointer (some ⟨P, 0, none⟩)] w (Rd.Out P tb C xs w RES) := by
 have HCAL := Lib.hid hcal
 have hTV : Rd.tokV t = .agg #[.int .i64 5, .int .i64 (t.at_ : Int), .int .i64 (t.to : Int), .int .i64 t.t.n, .string ⟨t.t.s.toArray⟩] := by unfold Rd.tokV; rw [hk]
 obtain ⟨tn, htn⟩ : ∃ tn, t.t.n = tn := ⟨_, rfl⟩
 obtain ⟨ts, hts⟩ : ∃ ts : ByteArray, ⟨t.t.s.toArray⟩ = ts := ⟨_, rfl⟩
 obtain ⟨ta, hta⟩ : ∃ ta : Int, (t.at_ : Int) = ta := ⟨_, rfl⟩
 obtain ⟨tz, hto⟩ : ∃ tz : Int, (t.to : Int) = tz := ⟨_, rfl⟩
 rw [htn, hts, hta, hto] at hTV
 have HTV := Lib.hid hTV
 obtain ⟨w1, hw1⟩ : ∃ w1, w.alloc (.cells #[.int .i64 0, .int .i64 0, .string ⟨#[]⟩, .slice none 0 0, .slice none 0 0, .slice none 0 0] 25) = w1 := ⟨_, rfl⟩
 obtain ⟨hb1, hs1⟩ := new_below hw1
 have hR1 := Hp.new hw1
 have hPl := hSt.lt
 have hnx := next_yes P tb C xs t r 0 0 w1 (hSrc.below hb1) (hSt.below hb1) hG.cap hG.few hG.C2
 obtain ⟨R, hR⟩ : ∃ R, w.heap.size = R := ⟨_, rfl⟩
 rw [hR] at hR1 hPl hs1
 have HN : Hid (P < R ∧ w1.heap.size = R + 1 ∧ w.heap.size = R) := ⟨hPl, hs1, hR⟩
 have HSRC1 := Lib.hid (hSrc.below hb1)
 have HR1 := Lib.hid hR1
 have HK1 : Hid (Keep (fun k => k = P) w w1) := keep_of_below hb1
 have HG := Lib.hid hG
 clear hcal hTV htn hts hta hto hb1 hs1 hR1 hPl hSrc hSt hG hk
 go_enter Try.func28, Try.ntmps28
 go_wp2_with fail
 refine hnx.mono ?_
 rintro e w2 ⟨rfl, hst2, hk2⟩
 rw [HTV.out]
 obtain ⟨w3, hw3⟩ : ∃ w3, w2.alloc (.cells #[.int .i64 5, .int .i64 ta, .int .i64 tz, .int .i64 tn, .string ts] 47) = w3 := ⟨_, rfl⟩
 obtain ⟨hb3, hs3⟩ := new_below hw3
 have hT3 := Hp.new hw3
 have hR3 := (HR1.out.keep hk2 (by have := HN.out; omega)).below hb3
 have hcal3 := HCAL.out w3 ((HSRC1.out.keep hk2 (fun e => HG.out.ne e.symm)).below hb3) (hst2.below hb3)
 rw [HTV.out] at hcal3
 obtain ⟨T, hT⟩ : ∃ T, w2.heap.size = T := ⟨_, rfl⟩
 rw [hT] at hT3
 have HR3 := Lib.hid hR3
 have HK3 : Hid (Keep (fun k => k = P) w w3) := (HK1.out.trans hk2).trans (keep_of_below hb3)
 have y0 := hT3.cell 0 rfl
 have y1 := hT3.cell 1 rfl
 have y2 := hT3.cell 2 rfl
 have y3 := hT3.cell 3 rfl
 have y4 := hT3.cell 4 rfl
 clear hnx hst2 hk2 hb3 hs3 hT3 hR3 hw1
 go_wp2_with fail
 refine hcal3.mono ?_
 rintro e w5 ⟨y, vm, vl, vt, rest, a2, e2, rfl, hr5, hz5, hst5, hk5, hsay⟩
 obtain ⟨b1, m1, p1, b2, m2, p2, b3, m3, p3, rfl, rfl, rfl⟩ := hr5.forms
 have hR5 := HR3.out.keep hk5 (by have := HN.out; omega)
 have HE := Lib.hid (Rd.Out.fin (x := y) (HK3.out.trans hk5) (R := R) (by have := HN.out; omega) (by have := HN.out; omega) (Dt.Rep.mono (fun j hj _ => by have h1 := HN.out; have h2 := HR3.out.lt; omega) y hr5) hz5 hst5 hsay)
 have r0 := hR5.cell 0 rfl
 have r1 := hR5.cell 1 rfl
 have r2 := hR5.cell 2 rfl
 have r3 := hR5.cell 3 rfl
 have r4 := hR5.cell 4 rfl
 have r5 := hR5.cell 5 rfl
 have k0 := hR5.frz 0
 have k1 := hR5.frz 1
 have k2 := hR5.frz 2
 have k3 := hR5.frz 3
 have k4 := hR5.frz 4
 have k5 := hR5.frz 5
 clear hcal3 hr5 hz5 hst5 hk5 hsay hR5 y0 y1 y2 y3 y4 hw3
 go_wp2
 refine bodyPost_ret (v := .agg #[.int .i64 y.k, .int .i64 y.n, .string y.s, .slice b1 m1 p1, .slice b2 m2 p2, .slice b3 m3 p3]) (by simp [results, Try.results28, go_sem, *]) rfl ?_
 exact HE.out
set_option maxRecDepth 100000 in
set_option maxHeartbeats 8000000 in
theorem datum_6 (P tb C : Nat) (xs : List Lx.PTok) (hG : Rd.G P tb C xs) (t : Lx.PTok) (r : List Lx.PTok) (w : World) (hk : t.t.k = 6) (RES : Rd.Res) (hcal : ∀ W, Rd.Src W tb xs → Rd.St W P tb C xs r 0 0 → Calls Try.prog 45 #[.pointer (some ⟨P, 0, none⟩), Rd.tokV t] W (Rd.Out P tb C xs W RES)) (hSrc : Rd.Src w tb xs) (hSt : Rd.St w P tb C xs (t :: r) 0 0) :
  Calls Try.prog 28 #[.pointer (some ⟨P, 0, none⟩)] w (Rd.Out P tb C xs w RES) := by
 have HCAL := Lib.hid hcal
 have hTV : Rd.tokV t = .agg #[.int .i64 6, .int .i64 (t.at_ : Int), .int .i64 (t.to : Int), .int .i64 t.t.n, .string ⟨t.t.s.toArray⟩] := by unfold Rd.tokV; rw [hk]
 obtain ⟨tn, htn⟩ : ∃ tn, t.t.n = tn := ⟨_, rfl⟩
 obtain ⟨ts, hts⟩ : ∃ ts : ByteArray, ⟨t.t.s.toArray⟩ = ts := ⟨_, rfl⟩
 obtain ⟨ta, hta⟩ : ∃ ta : Int, (t.at_ : Int) = ta := ⟨_, rfl⟩
 obtain ⟨tz, hto⟩ : ∃ tz : Int, (t.to : Int) = tz := ⟨_, rfl⟩
 rw [htn, hts, hta, hto] at hTV
 have HTV := Lib.hid hTV
 obtain ⟨w1, hw1⟩ : ∃ w1, w.alloc (.cells #[.int .i64 0, .int .i64 0, .string ⟨#[]⟩, .slice none 0 0, .slice none 0 0, .slice none 0 0] 25) = w1 := ⟨_, rfl⟩
 obtain ⟨hb1, hs1⟩ := new_below hw1
 have hR1 := Hp.new hw1
 have hPl := hSt.lt
 have hnx := next_yes P tb C xs t r 0 0 w1 (hSrc.below hb1) (hSt.below hb1) hG.cap hG.few hG.C2
 obtain ⟨R, hR⟩ : ∃ R, w.heap.size = R := ⟨_, rfl⟩
 rw [hR] at hR1 hPl hs1
 have HN : Hid (P < R ∧ w1.heap.size = R + 1 ∧ w.heap.size = R) := ⟨hPl, hs1, hR⟩
 have HSRC1 := Lib.hid (hSrc.below hb1)
 have HR1 := Lib.hid hR1
 have HK1 : Hid (Keep (fun k => k = P) w w1) := keep_of_below hb1
 have HG := Lib.hid hG
 clear hcal hTV htn hts hta hto hb1 hs1 hR1 hPl hSrc hSt hG hk
 go_enter Try.func28, Try.ntmps28
 go_wp2_with fail
 refine hnx.mono ?_
 rintro e w2 ⟨rfl, hst2, hk2⟩
 rw [HTV.out]
 obtain ⟨w3, hw3⟩ : ∃ w3, w2.alloc (.cells #[.int .i64 6, .int .i64 ta, .int .i64 tz, .int .i64 tn, .string ts] 47) = w3 := ⟨_, rfl⟩
 obtain ⟨hb3, hs3⟩ := new_below hw3
 have hT3 := Hp.new hw3
 have hR3 := (HR1.out.keep hk2 (by have := HN.out; omega)).below hb3
 have hcal3 := HCAL.out w3 ((HSRC1.out.keep hk2 (fun e => HG.out.ne e.symm)).below hb3) (hst2.below hb3)
 rw [HTV.out] at hcal3
 obtain ⟨T, hT⟩ : ∃ T, w2.heap.size = T := ⟨_, rfl⟩
 rw [hT] at hT3
 have HR3 := Lib.hid hR3
 have HK3 : Hid (Keep (fun k => k = P) w w3) := (HK1.out.trans hk2).trans (keep_of_below hb3)
 have y0 := hT3.cell 0 rfl
 have y1 := hT3.cell 1 rfl
 have y2 := hT3.cell 2 rfl
 have y3 := hT3.cell 3 rfl
 have y4 := hT3.cell 4 rfl
 clear hnx hst2 hk2 hb3 hs3 hT3 hR3 hw1
 go_wp2_with fail
 refine hcal3.mono ?_
 rintro e w5 ⟨y, vm, vl, vt, rest, a2, e2, rfl, hr5, hz5, hst5, hk5, hsay⟩
 obtain ⟨b1, m1, p1, b2, m2, p2, b3, m3, p3, rfl, rfl, rfl⟩ := hr5.forms
 have hR5 := HR3.out.keep hk5 (by have := HN.out; omega)
 have HE := Lib.hid (Rd.Out.fin (x := y) (HK3.out.trans hk5) (R := R) (by have := HN.out; omega) (by have := HN.out; omega) (Dt.Rep.mono (fun j hj _ => by have h1 := HN.out; have h2 := HR3.out.lt; omega) y hr5) hz5 hst5 hsay)
 have r0 := hR5.cell 0 rfl
 have r1 := hR5.cell 1 rfl
 have r2 := hR5.cell 2 rfl
 have r3 := hR5.cell 3 rfl
 have r4 := hR5.cell 4 rfl
 have r5 := hR5.cell 5 rfl
 have k0 := hR5.frz 0
 have k1 := hR5.frz 1
 have k2 := hR5.frz 2
 have k3 := hR5.frz 3
 have k4 := hR5.frz 4
 have k5 := hR5.frz 5
 clear hcal3 hr5 hz5 hst5 hk5 hsay hR5 y0 y1 y2 y3 y4 hw3
 go_wp2
 refine bodyPost_ret (v := .agg #[.int .i64 y.k, .int .i64 y.n, .string y.s, .slice b1 m1 p1, .slice b2 m2 p2, .slice b3 m3 p3]) (by simp [results, Try.results28, go_sem, *]) rfl ?_
 exact HE.out
set_option maxRecDepth 100000 in
set_option maxHeartbeats 8000000 in
theorem datum_7 (P tb C : Nat) (xs : List Lx.PTok) (hG : Rd.G P tb C xs) (t : Lx.PTok) (r : List Lx.PTok) (w : World) (hk : t.t.k = 7) (RES : Rd.Res) (hcal : ∀ W, Rd.Src W tb xs → Rd.St W P tb C xs r 0 0 → Calls Try.prog 45 #[.pointer (some ⟨P, 0, none⟩), Rd.tokV t] W (Rd.Out P tb C xs W RES)) (hSrc : Rd.Src w tb xs) (hSt : Rd.St w P tb C xs (t :: r) 0 0) :
  Calls Try.prog 28 #[.pointer (some ⟨P, 0, none⟩)] w (Rd.Out P tb C xs w RES) := by
 have HCAL := Lib.hid hcal
 have hTV : Rd.tokV t = .agg #[.int .i64 7, .int .i64 (t.at_ : Int), .int .i64 (t.to : Int), .int .i64 t.t.n, .string ⟨t.t.s.toArray⟩] := by unfold Rd.tokV; rw [hk]
 obtain ⟨tn, htn⟩ : ∃ tn, t.t.n = tn := ⟨_, rfl⟩
 obtain ⟨ts, hts⟩ : ∃ ts : ByteArray, ⟨t.t.s.toArray⟩ = ts := ⟨_, rfl⟩
 obtain ⟨ta, hta⟩ : ∃ ta : Int, (t.at_ : Int) = ta := ⟨_, rfl⟩
 obtain ⟨tz, hto⟩ : ∃ tz : Int, (t.to : Int) = tz := ⟨_, rfl⟩
 rw [htn, hts, hta, hto] at hTV
 have HTV := Lib.hid hTV
 obtain ⟨w1, hw1⟩ : ∃ w1, w.alloc (.cells #[.int .i64 0, .int .i64 0, .string ⟨#[]⟩, .slice none 0 0, .slice none 0 0, .slice none 0 0] 25) = w1 := ⟨_, rfl⟩
 obtain ⟨hb1, hs1⟩ := new_below hw1
 have hR1 := Hp.new hw1
 have hPl := hSt.lt
 have hnx := next_yes P tb C xs t r 0 0 w1 (hSrc.below hb1) (hSt.below hb1) hG.cap hG.few hG.C2
 obtain ⟨R, hR⟩ : ∃ R, w.heap.size = R := ⟨_, rfl⟩
 rw [hR] at hR1 hPl hs1
 have HN : Hid (P < R ∧ w1.heap.size = R + 1 ∧ w.heap.size = R) := ⟨hPl, hs1, hR⟩
 have HSRC1 := Lib.hid (hSrc.below hb1)
 have HR1 := Lib.hid hR1
 have HK1 : Hid (Keep (fun k => k = P) w w1) := keep_of_below hb1
 have HG := Lib.hid hG
 clear hcal hTV htn hts hta hto hb1 hs1 hR1 hPl hSrc hSt hG hk
 go_enter Try.func28, Try.ntmps28
 go_wp2_with fail
 refine hnx.mono ?_
 rintro e w2 ⟨rfl, hst2, hk2⟩
 rw [HTV.out]
 obtain ⟨w3, hw3⟩ : ∃ w3, w2.alloc (.cells #[.int .i64 7, .int .i64 ta, .int .i64 tz, .int .i64 tn, .string ts] 47) = w3 := ⟨_, rfl⟩
 obtain ⟨hb3, hs3⟩ := new_below hw3
 have hT3 := Hp.new hw3
 have hR3 := (HR1.out.keep hk2 (by have := HN.out; omega)).below hb3
 have hcal3 := HCAL.out w3 ((HSRC1.out.keep hk2 (fun e => HG.out.ne e.symm)).below hb3) (hst2.below hb3)
 rw [HTV.out] at hcal3
 obtain ⟨T, hT⟩ : ∃ T, w2.heap.size = T := ⟨_, rfl⟩
 rw [hT] at hT3
 have HR3 := Lib.hid hR3
 have HK3 : Hid (Keep (fun k => k = P) w w3) := (HK1.out.trans hk2).trans (keep_of_below hb3)
 have y0 := hT3.cell 0 rfl
 have y1 := hT3.cell 1 rfl
 have y2 := hT3.cell 2 rfl
 have y3 := hT3.cell 3 rfl
 have y4 := hT3.cell 4 rfl
 clear hnx hst2 hk2 hb3 hs3 hT3 hR3 hw1
 go_wp2_with fail
 refine hcal3.mono ?_
 rintro e w5 ⟨y, vm, vl, vt, rest, a2, e2, rfl, hr5, hz5, hst5, hk5, hsay⟩
 obtain ⟨b1, m1, p1, b2, m2, p2, b3, m3, p3, rfl, rfl, rfl⟩ := hr5.forms
 have hR5 := HR3.out.keep hk5 (by have := HN.out; omega)
 have HE := Lib.hid (Rd.Out.fin (x := y) (HK3.out.trans hk5) (R := R) (by have := HN.out; omega) (by have := HN.out; omega) (Dt.Rep.mono (fun j hj _ => by have h1 := HN.out; have h2 := HR3.out.lt; omega) y hr5) hz5 hst5 hsay)
 have r0 := hR5.cell 0 rfl
 have r1 := hR5.cell 1 rfl
 have r2 := hR5.cell 2 rfl
 have r3 := hR5.cell 3 rfl
 have r4 := hR5.cell 4 rfl
 have r5 := hR5.cell 5 rfl
 have k0 := hR5.frz 0
 have k1 := hR5.frz 1
 have k2 := hR5.frz 2
 have k3 := hR5.frz 3
 have k4 := hR5.frz 4
 have k5 := hR5.frz 5
 clear hcal3 hr5 hz5 hst5 hk5 hsay hR5 y0 y1 y2 y3 y4 hw3
 go_wp2
 refine bodyPost_ret (v := .agg #[.int .i64 y.k, .int .i64 y.n, .string y.s, .slice b1 m1 p1, .slice b2 m2 p2, .slice b3 m3 p3]) (by simp [results, Try.results28, go_sem, *]) rfl ?_
 exact HE.out
set_option maxRecDepth 100000 in
set_option maxHeartbeats 8000000 in
theorem datum_8 (P tb C : Nat) (xs : List Lx.PTok) (hG : Rd.G P tb C xs) (t : Lx.PTok) (r : List Lx.PTok) (w : World) (hk : t.t.k = 8) (RES : Rd.Res) (hcal : ∀ W, Rd.Src W tb xs → Rd.St W P tb C xs r 0 0 → Calls Try.prog 44 #[.pointer (some ⟨P, 0, none⟩), Rd.tokV t] W (Rd.Out P tb C xs W RES)) (hSrc : Rd.Src w tb xs) (hSt : Rd.St w P tb C xs (t :: r) 0 0) :
  Calls Try.prog 28 #[.pointer (some ⟨P, 0, none⟩)] w (Rd.Out P tb C xs w RES) := by
 have HCAL := Lib.hid hcal
 have hTV : Rd.tokV t = .agg #[.int .i64 8, .int .i64 (t.at_ : Int), .int .i64 (t.to : Int), .int .i64 t.t.n, .string ⟨t.t.s.toArray⟩] := by unfold Rd.tokV; rw [hk]
 obtain ⟨tn, htn⟩ : ∃ tn, t.t.n = tn := ⟨_, rfl⟩
 obtain ⟨ts, hts⟩ : ∃ ts : ByteArray, ⟨t.t.s.toArray⟩ = ts := ⟨_, rfl⟩
 obtain ⟨ta, hta⟩ : ∃ ta : Int, (t.at_ : Int) = ta := ⟨_, rfl⟩
 obtain ⟨tz, hto⟩ : ∃ tz : Int, (t.to : Int) = tz := ⟨_, rfl⟩
 rw [htn, hts, hta, hto] at hTV
 have HTV := Lib.hid hTV
 obtain ⟨w1, hw1⟩ : ∃ w1, w.alloc (.cells #[.int .i64 0, .int .i64 0, .string ⟨#[]⟩, .slice none 0 0, .slice none 0 0, .slice none 0 0] 25) = w1 := ⟨_, rfl⟩
 obtain ⟨hb1, hs1⟩ := new_below hw1
 have hR1 := Hp.new hw1
 have hPl := hSt.lt
 have hnx := next_yes P tb C xs t r 0 0 w1 (hSrc.below hb1) (hSt.below hb1) hG.cap hG.few hG.C2
 obtain ⟨R, hR⟩ : ∃ R, w.heap.size = R := ⟨_, rfl⟩
 rw [hR] at hR1 hPl hs1
 have HN : Hid (P < R ∧ w1.heap.size = R + 1 ∧ w.heap.size = R) := ⟨hPl, hs1, hR⟩
 have HSRC1 := Lib.hid (hSrc.below hb1)
 have HR1 := Lib.hid hR1
 have HK1 : Hid (Keep (fun k => k = P) w w1) := keep_of_below hb1
 have HG := Lib.hid hG
 clear hcal hTV htn hts hta hto hb1 hs1 hR1 hPl hSrc hSt hG hk
 go_enter Try.func28, Try.ntmps28
 go_wp2_with fail
 refine hnx.mono ?_
 rintro e w2 ⟨rfl, hst2, hk2⟩
 rw [HTV.out]
 obtain ⟨w3, hw3⟩ : ∃ w3, w2.alloc (.cells #[.int .i64 8, .int .i64 ta, .int .i64 tz, .int .i64 tn, .string ts] 47) = w3 := ⟨_, rfl⟩
 obtain ⟨hb3, hs3⟩ := new_below hw3
 have hT3 := Hp.new hw3
 have hR3 := (HR1.out.keep hk2 (by have := HN.out; omega)).below hb3
 have hcal3 := HCAL.out w3 ((HSRC1.out.keep hk2 (fun e => HG.out.ne e.symm)).below hb3) (hst2.below hb3)
 rw [HTV.out] at hcal3
 obtain ⟨T, hT⟩ : ∃ T, w2.heap.size = T := ⟨_, rfl⟩
 rw [hT] at hT3
 have HR3 := Lib.hid hR3
 have HK3 : Hid (Keep (fun k => k = P) w w3) := (HK1.out.trans hk2).trans (keep_of_below hb3)
 have y0 := hT3.cell 0 rfl
 have y1 := hT3.cell 1 rfl
 have y2 := hT3.cell 2 rfl
 have y3 := hT3.cell 3 rfl
 have y4 := hT3.cell 4 rfl
 clear hnx hst2 hk2 hb3 hs3 hT3 hR3 hw1
 go_wp2_with fail
 refine hcal3.mono ?_
 rintro e w5 ⟨y, vm, vl, vt, rest, a2, e2, rfl, hr5, hz5, hst5, hk5, hsay⟩
 obtain ⟨b1, m1, p1, b2, m2, p2, b3, m3, p3, rfl, rfl, rfl⟩ := hr5.forms
 have hR5 := HR3.out.keep hk5 (by have := HN.out; omega)
 have HE := Lib.hid (Rd.Out.fin (x := y) (HK3.out.trans hk5) (R := R) (by have := HN.out; omega) (by have := HN.out; omega) (Dt.Rep.mono (fun j hj _ => by have h1 := HN.out; have h2 := HR3.out.lt; omega) y hr5) hz5 hst5 hsay)
 have r0 := hR5.cell 0 rfl
 have r1 := hR5.cell 1 rfl
 have r2 := hR5.cell 2 rfl
 have r3 := hR5.cell 3 rfl
 have r4 := hR5.cell 4 rfl
 have r5 := hR5.cell 5 rfl
 have k0 := hR5.frz 0
 have k1 := hR5.frz 1
 have k2 := hR5.frz 2
 have k3 := hR5.frz 3
 have k4 := hR5.frz 4
 have k5 := hR5.frz 5
 clear hcal3 hr5 hz5 hst5 hk5 hsay hR5 y0 y1 y2 y3 y4 hw3
 go_wp2
 refine bodyPost_ret (v := .agg #[.int .i64 y.k, .int .i64 y.n, .string y.s, .slice b1 m1 p1, .slice b2 m2 p2, .slice b3 m3 p3]) (by simp [results, Try.results28, go_sem, *]) rfl ?_
 exact HE.out
set_option maxRecDepth 100000 in
set_option maxHeartbeats 8000000 in
theorem datum_9 (P tb C : Nat) (xs : List Lx.PTok) (hG : Rd.G P tb C xs) (t : Lx.PTok) (r : List Lx.PTok) (w : World) (hk : t.t.k = 9) (RES : Rd.Res) (hcal : ∀ W, Rd.Src W tb xs → Rd.St W P tb C xs r 0 0 → Calls Try.prog 41 #[.pointer (some ⟨P, 0, none⟩), Rd.tokV t] W (Rd.Out P tb C xs W RES)) (hSrc : Rd.Src w tb xs) (hSt : Rd.St w P tb C xs (t :: r) 0 0) :
  Calls Try.prog 28 #[.pointer (some ⟨P, 0, none⟩)] w (Rd.Out P tb C xs w RES) := by
 have HCAL := Lib.hid hcal
 have hTV : Rd.tokV t = .agg #[.int .i64 9, .int .i64 (t.at_ : Int), .int .i64 (t.to : Int), .int .i64 t.t.n, .string ⟨t.t.s.toArray⟩] := by unfold Rd.tokV; rw [hk]
 obtain ⟨tn, htn⟩ : ∃ tn, t.t.n = tn := ⟨_, rfl⟩
 obtain ⟨ts, hts⟩ : ∃ ts : ByteArray, ⟨t.t.s.toArray⟩ = ts := ⟨_, rfl⟩
 obtain ⟨ta, hta⟩ : ∃ ta : Int, (t.at_ : Int) = ta := ⟨_, rfl⟩
 obtain ⟨tz, hto⟩ : ∃ tz : Int, (t.to : Int) = tz := ⟨_, rfl⟩
 rw [htn, hts, hta, hto] at hTV
 have HTV := Lib.hid hTV
 obtain ⟨w1, hw1⟩ : ∃ w1, w.alloc (.cells #[.int .i64 0, .int .i64 0, .string ⟨#[]⟩, .slice none 0 0, .slice none 0 0, .slice none 0 0] 25) = w1 := ⟨_, rfl⟩
 obtain ⟨hb1, hs1⟩ := new_below hw1
 have hR1 := Hp.new hw1
 have hPl := hSt.lt
 have hnx := next_yes P tb C xs t r 0 0 w1 (hSrc.below hb1) (hSt.below hb1) hG.cap hG.few hG.C2
 obtain ⟨R, hR⟩ : ∃ R, w.heap.size = R := ⟨_, rfl⟩
 rw [hR] at hR1 hPl hs1
 have HN : Hid (P < R ∧ w1.heap.size = R + 1 ∧ w.heap.size = R) := ⟨hPl, hs1, hR⟩
 have HSRC1 := Lib.hid (hSrc.below hb1)
 have HR1 := Lib.hid hR1
 have HK1 : Hid (Keep (fun k => k = P) w w1) := keep_of_below hb1
 have HG := Lib.hid hG
 clear hcal hTV htn hts hta hto hb1 hs1 hR1 hPl hSrc hSt hG hk
 go_enter Try.func28, Try.ntmps28
 go_wp2_with fail
 refine hnx.mono ?_
 rintro e w2 ⟨rfl, hst2, hk2⟩
 rw [HTV.out]
 obtain ⟨w3, hw3⟩ : ∃ w3, w2.alloc (.cells #[.int .i64 9, .int .i64 ta, .int .i64 tz, .int .i64 tn, .string ts] 47) = w3 := ⟨_, rfl⟩
 obtain ⟨hb3, hs3⟩ := new_below hw3
 have hT3 := Hp.new hw3
 have hR3 := (HR1.out.keep hk2 (by have := HN.out; omega)).below hb3
 have hcal3 := HCAL.out w3 ((HSRC1.out.keep hk2 (fun e => HG.out.ne e.symm)).below hb3) (hst2.below hb3)
 rw [HTV.out] at hcal3
 obtain ⟨T, hT⟩ : ∃ T, w2.heap.size = T := ⟨_, rfl⟩
 rw [hT] at hT3
 have HR3 := Lib.hid hR3
 have HK3 : Hid (Keep (fun k => k = P) w w3) := (HK1.out.trans hk2).trans (keep_of_below hb3)
 have y0 := hT3.cell 0 rfl
 have y1 := hT3.cell 1 rfl
 have y2 := hT3.cell 2 rfl
 have y3 := hT3.cell 3 rfl
 have y4 := hT3.cell 4 rfl
 clear hnx hst2 hk2 hb3 hs3 hT3 hR3 hw1
 go_wp2_with fail
 refine hcal3.mono ?_
 rintro e w5 ⟨y, vm, vl, vt, rest, a2, e2, rfl, hr5, hz5, hst5, hk5, hsay⟩
 obtain ⟨b1, m1, p1, b2, m2, p2, b3, m3, p3, rfl, rfl, rfl⟩ := hr5.forms
 have hR5 := HR3.out.keep hk5 (by have := HN.out; omega)
 have HE := Lib.hid (Rd.Out.fin (x := y) (HK3.out.trans hk5) (R := R) (by have := HN.out; omega) (by have := HN.out; omega) (Dt.Rep.mono (fun j hj _ => by have h1 := HN.out; have h2 := HR3.out.lt; omega) y hr5) hz5 hst5 hsay)
 have r0 := hR5.cell 0 rfl
 have r1 := hR5.cell 1 rfl
 have r2 := hR5.cell 2 rfl
 have r3 := hR5.cell 3 rfl
 have r4 := hR5.cell 4 rfl
 have r5 := hR5.cell 5 rfl
 have k0 := hR5.frz 0
 have k1 := hR5.frz 1
 have k2 := hR5.frz 2
 have k3 := hR5.frz 3
 have k4 := hR5.frz 4
 have k5 := hR5.frz 5
 clear hcal3 hr5 hz5 hst5 hk5 hsay hR5 y0 y1 y2 y3 y4 hw3
 go_wp2
 refine bodyPost_ret (v := .agg #[.int .i64 y.k, .int .i64 y.n, .string y.s, .slice b1 m1 p1, .slice b2 m2 p2, .slice b3 m3 p3]) (by simp [results, Try.results28, go_sem, *]) rfl ?_
 exact HE.out
set_option maxRecDepth 100000 in
set_option maxHeartbeats 8000000 in
theorem datum_10 (P tb C : Nat) (xs : List Lx.PTok) (hG : Rd.G P tb C xs) (t : Lx.PTok) (r : List Lx.PTok) (w : World) (hk : t.t.k = 10) (RES : Rd.Res) (hcal : ∀ W, Rd.Src W tb xs → Rd.St W P tb C xs r 0 0 → Calls Try.prog 41 #[.pointer (some ⟨P, 0, none⟩), Rd.tokV t] W (Rd.Out P tb C xs W RES)) (hSrc : Rd.Src w tb xs) (hSt : Rd.St w P tb C xs (t :: r) 0 0) :
  Calls Try.prog 28 #[.pointer (some ⟨P, 0, none⟩)] w (Rd.Out P tb C xs w RES) := by
 have HCAL := Lib.hid hcal
 have hTV : Rd.tokV t = .agg #[.int .i64 10, .int .i64 (t.at_ : Int), .int .i64 (t.to : Int), .int .i64 t.t.n, .string ⟨t.t.s.toArray⟩] := by unfold Rd.tokV; rw [hk]
 obtain ⟨tn, htn⟩ : ∃ tn, t.t.n = tn := ⟨_, rfl⟩
 obtain ⟨ts, hts⟩ : ∃ ts : ByteArray, ⟨t.t.s.toArray⟩ = ts := ⟨_, rfl⟩
 obtain ⟨ta, hta⟩ : ∃ ta : Int, (t.at_ : Int) = ta := ⟨_, rfl⟩
 obtain ⟨tz, hto⟩ : ∃ tz : Int, (t.to : Int) = tz := ⟨_, rfl⟩
 rw [htn, hts, hta, hto] at hTV
 have HTV := Lib.hid hTV
 obtain ⟨w1, hw1⟩ : ∃ w1, w.alloc (.cells #[.int .i64 0, .int .i64 0, .string ⟨#[]⟩, .slice none 0 0, .slice none 0 0, .slice none 0 0] 25) = w1 := ⟨_, rfl⟩
 obtain ⟨hb1, hs1⟩ := new_below hw1
 have hR1 := Hp.new hw1
 have hPl := hSt.lt
 have hnx := next_yes P tb C xs t r 0 0 w1 (hSrc.below hb1) (hSt.below hb1) hG.cap hG.few hG.C2
 obtain ⟨R, hR⟩ : ∃ R, w.heap.size = R := ⟨_, rfl⟩
 rw [hR] at hR1 hPl hs1
 have HN : Hid (P < R ∧ w1.heap.size = R + 1 ∧ w.heap.size = R) := ⟨hPl, hs1, hR⟩
 have HSRC1 := Lib.hid (hSrc.below hb1)
 have HR1 := Lib.hid hR1
 have HK1 : Hid (Keep (fun k => k = P) w w1) := keep_of_below hb1
 have HG := Lib.hid hG
 clear hcal hTV htn hts hta hto hb1 hs1 hR1 hPl hSrc hSt hG hk
 go_enter Try.func28, Try.ntmps28
 go_wp2_with fail
 refine hnx.mono ?_
 rintro e w2 ⟨rfl, hst2, hk2⟩
 rw [HTV.out]
 obtain ⟨w3, hw3⟩ : ∃ w3, w2.alloc (.cells #[.int .i64 10, .int .i64 ta, .int .i64 tz, .int .i64 tn, .string ts] 47) = w3 := ⟨_, rfl⟩
 obtain ⟨hb3, hs3⟩ := new_below hw3
 have hT3 := Hp.new hw3
 have hR3 := (HR1.out.keep hk2 (by have := HN.out; omega)).below hb3
 have hcal3 := HCAL.out w3 ((HSRC1.out.keep hk2 (fun e => HG.out.ne e.symm)).below hb3) (hst2.below hb3)
 rw [HTV.out] at hcal3
 obtain ⟨T, hT⟩ : ∃ T, w2.heap.size = T := ⟨_, rfl⟩
 rw [hT] at hT3
 have HR3 := Lib.hid hR3
 have HK3 : Hid (Keep (fun k => k = P) w w3) := (HK1.out.trans hk2).trans (keep_of_below hb3)
 have y0 := hT3.cell 0 rfl
 have y1 := hT3.cell 1 rfl
 have y2 := hT3.cell 2 rfl
 have y3 := hT3.cell 3 rfl
 have y4 := hT3.cell 4 rfl
 clear hnx hst2 hk2 hb3 hs3 hT3 hR3 hw1
 go_wp2_with fail
 refine hcal3.mono ?_
 rintro e w5 ⟨y, vm, vl, vt, rest, a2, e2, rfl, hr5, hz5, hst5, hk5, hsay⟩
 obtain ⟨b1, m1, p1, b2, m2, p2, b3, m3, p3, rfl, rfl, rfl⟩ := hr5.forms
 have hR5 := HR3.out.keep hk5 (by have := HN.out; omega)
 have HE := Lib.hid (Rd.Out.fin (x := y) (HK3.out.trans hk5) (R := R) (by have := HN.out; omega) (by have := HN.out; omega) (Dt.Rep.mono (fun j hj _ => by have h1 := HN.out; have h2 := HR3.out.lt; omega) y hr5) hz5 hst5 hsay)
 have r0 := hR5.cell 0 rfl
 have r1 := hR5.cell 1 rfl
 have r2 := hR5.cell 2 rfl
 have r3 := hR5.cell 3 rfl
 have r4 := hR5.cell 4 rfl
 have r5 := hR5.cell 5 rfl
 have k0 := hR5.frz 0
 have k1 := hR5.frz 1
 have k2 := hR5.frz 2
 have k3 := hR5.frz 3
 have k4 := hR5.frz 4
 have k5 := hR5.frz 5
 clear hcal3 hr5 hz5 hst5 hk5 hsay hR5 y0 y1 y2 y3 y4 hw3
 go_wp2
 refine bodyPost_ret (v := .agg #[.int .i64 y.k, .int .i64 y.n, .string y.s, .slice b1 m1 p1, .slice b2 m2 p2, .slice b3 m3 p3]) (by simp [results, Try.results28, go_sem, *]) rfl ?_
 exact HE.out
set_option maxRecDepth 100000 in
set_option maxHeartbeats 8000000 in
theorem datum_11 (P tb C : Nat) (xs : List Lx.PTok) (hG : Rd.G P tb C xs) (t : Lx.PTok) (r : List Lx.PTok) (w : World) (hk : t.t.k = 11) (RES : Rd.Res) (hcal : ∀ W, Rd.Src W tb xs → Rd.St W P tb C xs r 0 0 → Calls Try.prog 41 #[.pointer (some ⟨P, 0, none⟩), Rd.tokV t] W (Rd.Out P tb C xs W RES)) (hSrc : Rd.Src w tb xs) (hSt : Rd.St w P tb C xs (t :: r) 0 0) :
  Calls Try.prog 28 #[.pointer (some ⟨P, 0, none⟩)] w (Rd.Out P tb C xs w RES) := by
 have HCAL := Lib.hid hcal
 have hTV : Rd.tokV t = .agg #[.int .i64 11, .int .i64 (t.at_ : Int), .int .i64 (t.to : Int), .int .i64 t.t.n, .string ⟨t.t.s.toArray⟩] := by unfold Rd.tokV; rw [hk]
 obtain ⟨tn, htn⟩ : ∃ tn, t.t.n = tn := ⟨_, rfl⟩
 obtain ⟨ts, hts⟩ : ∃ ts : ByteArray, ⟨t.t.s.toArray⟩ = ts := ⟨_, rfl⟩
 obtain ⟨ta, hta⟩ : ∃ ta : Int, (t.at_ : Int) = ta := ⟨_, rfl⟩
 obtain ⟨tz, hto⟩ : ∃ tz : Int, (t.to : Int) = tz := ⟨_, rfl⟩
 rw [htn, hts, hta, hto] at hTV
 have HTV := Lib.hid hTV
 obtain ⟨w1, hw1⟩ : ∃ w1, w.alloc (.cells #[.int .i64 0, .int .i64 0, .string ⟨#[]⟩, .slice none 0 0, .slice none 0 0, .slice none 0 0] 25) = w1 := ⟨_, rfl⟩
 obtain ⟨hb1, hs1⟩ := new_below hw1
 have hR1 := Hp.new hw1
 have hPl := hSt.lt
 have hnx := next_yes P tb C xs t r 0 0 w1 (hSrc.below hb1) (hSt.below hb1) hG.cap hG.few hG.C2
 obtain ⟨R, hR⟩ : ∃ R, w.heap.size = R := ⟨_, rfl⟩
 rw [hR] at hR1 hPl hs1
 have HN : Hid (P < R ∧ w1.heap.size = R + 1 ∧ w.heap.size = R) := ⟨hPl, hs1, hR⟩
 have HSRC1 := Lib.hid (hSrc.below hb1)
 have HR1 := Lib.hid hR1
 have HK1 : Hid (Keep (fun k => k = P) w w1) := keep_of_below hb1
 have HG := Lib.hid hG
 clear hcal hTV htn hts hta hto hb1 hs1 hR1 hPl hSrc hSt hG hk
 go_enter Try.func28, Try.ntmps28
 go_wp2_with fail
 refine hnx.mono ?_
 rintro e w2 ⟨rfl, hst2, hk2⟩
 rw [HTV.out]
 obtain ⟨w3, hw3⟩ : ∃ w3, w2.alloc (.cells #[.int .i64 11, .int .i64 ta, .int .i64 tz, .int .i64 tn, .string ts] 47) = w3 := ⟨_, rfl⟩
 obtain ⟨hb3, hs3⟩ := new_below hw3
 have hT3 := Hp.new hw3
 have hR3 := (HR1.out.keep hk2 (by have := HN.out; omega)).below hb3
 have hcal3 := HCAL.out w3 ((HSRC1.out.keep hk2 (fun e => HG.out.ne e.symm)).below hb3) (hst2.below hb3)
 rw [HTV.out] at hcal3
 obtain ⟨T, hT⟩ : ∃ T, w2.heap.size = T := ⟨_, rfl⟩
 rw [hT] at hT3
 have HR3 := Lib.hid hR3
 have HK3 : Hid (Keep (fun k => k = P) w w3) := (HK1.out.trans hk2).trans (keep_of_below hb3)
 have y0 := hT3.cell 0 rfl
 have y1 := hT3.cell 1 rfl
 have y2 := hT3.cell 2 rfl
 have y3 := hT3.cell 3 rfl
 have y4 := hT3.cell 4 rfl
 clear hnx hst2 hk2 hb3 hs3 hT3 hR3 hw1
 go_wp2_with fail
 refine hcal3.mono ?_
 rintro e w5 ⟨y, vm, vl, vt, rest, a2, e2, rfl, hr5, hz5, hst5, hk5, hsay⟩
 obtain ⟨b1, m1, p1, b2, m2, p2, b3, m3, p3, rfl, rfl, rfl⟩ := hr5.forms
 have hR5 := HR3.out.keep hk5 (by have := HN.out; omega)
 have HE := Lib.hid (Rd.Out.fin (x := y) (HK3.out.trans hk5) (R := R) (by have := HN.out; omega) (by have := HN.out; omega) (Dt.Rep.mono (fun j hj _ => by have h1 := HN.out; have h2 := HR3.out.lt; omega) y hr5) hz5 hst5 hsay)
 have r0 := hR5.cell 0 rfl
 have r1 := hR5.cell 1 rfl
 have r2 := hR5.cell 2 rfl
 have r3 := hR5.cell 3 rfl
 have r4 := hR5.cell 4 rfl
 have r5 := hR5.cell 5 rfl
 have k0 := hR5.frz 0
 have k1 := hR5.frz 1
 have k2 := hR5.frz 2
 have k3 := hR5.frz 3
 have k4 := hR5.frz 4
 have k5 := hR5.frz 5
 clear hcal3 hr5 hz5 hst5 hk5 hsay hR5 y0 y1 y2 y3 y4 hw3
 go_wp2
 refine bodyPost_ret (v := .agg #[.int .i64 y.k, .int .i64 y.n, .string y.s, .slice b1 m1 p1, .slice b2 m2 p2, .slice b3 m3 p3]) (by simp [results, Try.results28, go_sem, *]) rfl ?_
 exact HE.out
set_option maxRecDepth 100000 in
set_option maxHeartbeats 8000000 in
theorem datum_12 (P tb C : Nat) (xs : List Lx.PTok) (hG : Rd.G P tb C xs) (t : Lx.PTok) (r : List Lx.PTok) (w : World) (hk : t.t.k = 12) (RES : Rd.Res) (hcal : ∀ W, Rd.Src W tb xs → Rd.St W P tb C xs r 0 0 → Calls Try.prog 41 #[.pointer (some ⟨P, 0, none⟩), Rd.tokV t] W (Rd.Out P tb C xs W RES)) (hSrc : Rd.Src w tb xs) (hSt : Rd.St w P tb C xs (t :: r) 0 0) :
  Calls Try.prog 28 #[.pointer (some ⟨P, 0, none⟩)] w (Rd.Out P tb C xs w RES) := by
 have HCAL := Lib.hid hcal
 have hTV : Rd.tokV t = .agg #[.int .i64 12, .int .i64 (t.at_ : Int), .int .i64 (t.to : Int), .int .i64 t.t.n, .string ⟨t.t.s.toArray⟩] := by unfold Rd.tokV; rw [hk]
 obtain ⟨tn, htn⟩ : ∃ tn, t.t.n = tn := ⟨_, rfl⟩
 obtain ⟨ts, hts⟩ : ∃ ts : ByteArray, ⟨t.t.s.toArray⟩ = ts := ⟨_, rfl⟩
 obtain ⟨ta, hta⟩ : ∃ ta : Int, (t.at_ : Int) = ta := ⟨_, rfl⟩
 obtain ⟨tz, hto⟩ : ∃ tz : Int, (t.to : Int) = tz := ⟨_, rfl⟩
 rw [htn, hts, hta, hto] at hTV
 have HTV := Lib.hid hTV
 obtain ⟨w1, hw1⟩ : ∃ w1, w.alloc (.cells #[.int .i64 0, .int .i64 0, .string ⟨#[]⟩, .slice none 0 0, .slice none 0 0, .slice none 0 0] 25) = w1 := ⟨_, rfl⟩
 obtain ⟨hb1, hs1⟩ := new_below hw1
 have hR1 := Hp.new hw1
 have hPl := hSt.lt
 have hnx := next_yes P tb C xs t r 0 0 w1 (hSrc.below hb1) (hSt.below hb1) hG.cap hG.few hG.C2
 obtain ⟨R, hR⟩ : ∃ R, w.heap.size = R := ⟨_, rfl⟩
 rw [hR] at hR1 hPl hs1
 have HN : Hid (P < R ∧ w1.heap.size = R + 1 ∧ w.heap.size = R) := ⟨hPl, hs1, hR⟩
 have HSRC1 := Lib.hid (hSrc.below hb1)
 have HR1 := Lib.hid hR1
 have HK1 : Hid (Keep (fun k => k = P) w w1) := keep_of_below hb1
 have HG := Lib.hid hG
 clear hcal hTV htn hts hta hto hb1 hs1 hR1 hPl hSrc hSt hG hk
 go_enter Try.func28, Try.ntmps28
 go_wp2_with fail
 refine hnx.mono ?_
 rintro e w2 ⟨rfl, hst2, hk2⟩
 rw [HTV.out]
 obtain ⟨w3, hw3⟩ : ∃ w3, w2.alloc (.cells #[.int .i64 12, .int .i64 ta, .int .i64 tz, .int .i64 tn, .string ts] 47) = w3 := ⟨_, rfl⟩
 obtain ⟨hb3, hs3⟩ := new_below hw3
 have hT3 := Hp.new hw3
 have hR3 := (HR1.out.keep hk2 (by have := HN.out; omega)).below hb3
 have hcal3 := HCAL.out w3 ((HSRC1.out.keep hk2 (fun e => HG.out.ne e.symm)).below hb3) (hst2.below hb3)
 rw [HTV.out] at hcal3
 obtain ⟨T, hT⟩ : ∃ T, w2.heap.size = T := ⟨_, rfl⟩
 rw [hT] at hT3
 have HR3 := Lib.hid hR3
 have HK3 : Hid (Keep (fun k => k = P) w w3) := (HK1.out.trans hk2).trans (keep_of_below hb3)
 have y0 := hT3.cell 0 rfl
 have y1 := hT3.cell 1 rfl
 have y2 := hT3.cell 2 rfl
 have y3 := hT3.cell 3 rfl
 have y4 := hT3.cell 4 rfl
 clear hnx hst2 hk2 hb3 hs3 hT3 hR3 hw1
 go_wp2_with fail
 refine hcal3.mono ?_
 rintro e w5 ⟨y, vm, vl, vt, rest, a2, e2, rfl, hr5, hz5, hst5, hk5, hsay⟩
 obtain ⟨b1, m1, p1, b2, m2, p2, b3, m3, p3, rfl, rfl, rfl⟩ := hr5.forms
 have hR5 := HR3.out.keep hk5 (by have := HN.out; omega)
 have HE := Lib.hid (Rd.Out.fin (x := y) (HK3.out.trans hk5) (R := R) (by have := HN.out; omega) (by have := HN.out; omega) (Dt.Rep.mono (fun j hj _ => by have h1 := HN.out; have h2 := HR3.out.lt; omega) y hr5) hz5 hst5 hsay)
 have r0 := hR5.cell 0 rfl
 have r1 := hR5.cell 1 rfl
 have r2 := hR5.cell 2 rfl
 have r3 := hR5.cell 3 rfl
 have r4 := hR5.cell 4 rfl
 have r5 := hR5.cell 5 rfl
 have k0 := hR5.frz 0
 have k1 := hR5.frz 1
 have k2 := hR5.frz 2
 have k3 := hR5.frz 3
 have k4 := hR5.frz 4
 have k5 := hR5.frz 5
 clear hcal3 hr5 hz5 hst5 hk5 hsay hR5 y0 y1 y2 y3 y4 hw3
 go_wp2
 refine bodyPost_ret (v := .agg #[.int .i64 y.k, .int .i64 y.n, .string y.s, .slice b1 m1 p1, .slice b2 m2 p2, .slice b3 m3 p3]) (by simp [results, Try.results28, go_sem, *]) rfl ?_
 exact HE.out
set_option maxRecDepth 100000 in
set_option maxHeartbeats 8000000 in
theorem datum_13 (P tb C : Nat) (xs : List Lx.PTok) (hG : Rd.G P tb C xs) (t : Lx.PTok) (r : List Lx.PTok) (w : World) (hk : t.t.k = 13) (RES : Rd.Res) (hcal : ∀ W, Rd.Src W tb xs → Rd.St W P tb C xs r 0 0 → Calls Try.prog 41 #[.pointer (some ⟨P, 0, none⟩), Rd.tokV t] W (Rd.Out P tb C xs W RES)) (hSrc : Rd.Src w tb xs) (hSt : Rd.St w P tb C xs (t :: r) 0 0) :
  Calls Try.prog 28 #[.pointer (some ⟨P, 0, none⟩)] w (Rd.Out P tb C xs w RES) := by
 have HCAL := Lib.hid hcal
 have hTV : Rd.tokV t = .agg #[.int .i64 13, .int .i64 (t.at_ : Int), .int .i64 (t.to : Int), .int .i64 t.t.n, .string ⟨t.t.s.toArray⟩] := by unfold Rd.tokV; rw [hk]
 obtain ⟨tn, htn⟩ : ∃ tn, t.t.n = tn := ⟨_, rfl⟩
 obtain ⟨ts, hts⟩ : ∃ ts : ByteArray, ⟨t.t.s.toArray⟩ = ts := ⟨_, rfl⟩
 obtain ⟨ta, hta⟩ : ∃ ta : Int, (t.at_ : Int) = ta := ⟨_, rfl⟩
 obtain ⟨tz, hto⟩ : ∃ tz : Int, (t.to : Int) = tz := ⟨_, rfl⟩
 rw [htn, hts, hta, hto] at hTV
 have HTV := Lib.hid hTV
 obtain ⟨w1, hw1⟩ : ∃ w1, w.alloc (.cells #[.int .i64 0, .int .i64 0, .string ⟨#[]⟩, .slice none 0 0, .slice none 0 0, .slice none 0 0] 25) = w1 := ⟨_, rfl⟩
 obtain ⟨hb1, hs1⟩ := new_below hw1
 have hR1 := Hp.new hw1
 have hPl := hSt.lt
 have hnx := next_yes P tb C xs t r 0 0 w1 (hSrc.below hb1) (hSt.below hb1) hG.cap hG.few hG.C2
 obtain ⟨R, hR⟩ : ∃ R, w.heap.size = R := ⟨_, rfl⟩
 rw [hR] at hR1 hPl hs1
 have HN : Hid (P < R ∧ w1.heap.size = R + 1 ∧ w.heap.size = R) := ⟨hPl, hs1, hR⟩
 have HSRC1 := Lib.hid (hSrc.below hb1)
 have HR1 := Lib.hid hR1
 have HK1 : Hid (Keep (fun k => k = P) w w1) := keep_of_below hb1
 have HG := Lib.hid hG
 clear hcal hTV htn hts hta hto hb1 hs1 hR1 hPl hSrc hSt hG hk
 go_enter Try.func28, Try.ntmps28
 go_wp2_with fail
 refine hnx.mono ?_
 rintro e w2 ⟨rfl, hst2, hk2⟩
 rw [HTV.out]
 obtain ⟨w3, hw3⟩ : ∃ w3, w2.alloc (.cells #[.int .i64 13, .int .i64 ta, .int .i64 tz, .int .i64 tn, .string ts] 47) = w3 := ⟨_, rfl⟩
 obtain ⟨hb3, hs3⟩ := new_below hw3
 have hT3 := Hp.new hw3
 have hR3 := (HR1.out.keep hk2 (by have := HN.out; omega)).below hb3
 have hcal3 := HCAL.out w3 ((HSRC1.out.keep hk2 (fun e => HG.out.ne e.symm)).below hb3) (hst2.below hb3)
 rw [HTV.out] at hcal3
 obtain ⟨T, hT⟩ : ∃ T, w2.heap.size = T := ⟨_, rfl⟩
 rw [hT] at hT3
 have HR3 := Lib.hid hR3
 have HK3 : Hid (Keep (fun k => k = P) w w3) := (HK1.out.trans hk2).trans (keep_of_below hb3)
 have y0 := hT3.cell 0 rfl
 have y1 := hT3.cell 1 rfl
 have y2 := hT3.cell 2 rfl
 have y3 := hT3.cell 3 rfl
 have y4 := hT3.cell 4 rfl
 clear hnx hst2 hk2 hb3 hs3 hT3 hR3 hw1
 go_wp2_with fail
 refine hcal3.mono ?_
 rintro e w5 ⟨y, vm, vl, vt, rest, a2, e2, rfl, hr5, hz5, hst5, hk5, hsay⟩
 obtain ⟨b1, m1, p1, b2, m2, p2, b3, m3, p3, rfl, rfl, rfl⟩ := hr5.forms
 have hR5 := HR3.out.keep hk5 (by have := HN.out; omega)
 have HE := Lib.hid (Rd.Out.fin (x := y) (HK3.out.trans hk5) (R := R) (by have := HN.out; omega) (by have := HN.out; omega) (Dt.Rep.mono (fun j hj _ => by have h1 := HN.out; have h2 := HR3.out.lt; omega) y hr5) hz5 hst5 hsay)
 have r0 := hR5.cell 0 rfl
 have r1 := hR5.cell 1 rfl
 have r2 := hR5.cell 2 rfl
 have r3 := hR5.cell 3 rfl
 have r4 := hR5.cell 4 rfl
 have r5 := hR5.cell 5 rfl
 have k0 := hR5.frz 0
 have k1 := hR5.frz 1
 have k2 := hR5.frz 2
 have k3 := hR5.frz 3
 have k4 := hR5.frz 4
 have k5 := hR5.frz 5
 clear hcal3 hr5 hz5 hst5 hk5 hsay hR5 y0 y1 y2 y3 y4 hw3
 go_wp2
 refine bodyPost_ret (v := .agg #[.int .i64 y.k, .int .i64 y.n, .string y.s, .slice b1 m1 p1, .slice b2 m2 p2, .slice b3 m3 p3]) (by simp [results, Try.results28, go_sem, *]) rfl ?_
 exact HE.out
theorem datum_step (P tb C : Nat) (xs : List Lx.PTok) (hG : Rd.G P tb C xs) (f : Nat) (hD : ∀ g, g < f → Rd.DatumIs P tb C xs g) : Rd.DatumIs P tb C xs f := by
 intro ts w hne hSrc hSt hR
 cases f with
 | zero => exact absurd (by rw [Rd.pd]) hR
 | succ q =>
  cases ts with
  | nil => exact absurd rfl hne
  | cons t r =>
   have hD' : ∀ g, g < q → Rd.DatumIs P tb C xs g := fun g hg => hD g (by omega)
   have hmem : t ∈ xs := by obtain ⟨_, pre, -, hpre, -⟩ := hSt; rw [hpre]; simp
   obtain ⟨h1, h2⟩ := hG.ok t hmem
   obtain ⟨k, hk⟩ : ∃ k, t.t.k = k := ⟨_, rfl⟩
   rw [hk] at h1 h2
   obtain rfl | rfl | rfl | rfl | rfl | rfl | rfl | rfl | rfl | rfl | rfl | rfl | rfl : k = 1 ∨ k = 2 ∨ k = 3 ∨ k = 4 ∨ k = 5 ∨ k = 6 ∨ k = 7 ∨ k = 8 ∨ k = 9 ∨ k = 10 ∨ k = 11 ∨ k = 12 ∨ k = 13 := by omega
   ·have e : Rd.pd (q + 1) (t :: r) = Rd.pl q t.at_ [] r := by rw [Rd.pd, if_pos hk]
    rw [e] at hR ⊢
    exact datum_1 P tb C xs hG t r w hk _ (fun W hs hst => list_any P tb C xs hG q hD' t r W hs hst hR) hSrc hSt
   ·have e : Rd.pd (q + 1) (t :: r) = .bad t.at_ 40 := by rw [Rd.pd, if_neg (by omega), if_neg (by omega), if_pos (by omega)]
    rw [e]
    exact datum_2 P tb C xs hG t r w hk _ (fun W hs hst => (stray_any P tb C xs r t W hst).mono fun _ _ h => Rd.Out.of_fail h (by decide)) hSrc hSt
   ·have e : Rd.pd (q + 1) (t :: r) = Rd.pv q t.at_ [] r := by rw [Rd.pd, if_neg (by omega), if_pos hk]
    rw [e] at hR ⊢
    exact datum_3 P tb C xs hG t r w hk _ (fun W hs hst => vector_any P tb C xs hG q hD' t r W hs hst hR) hSrc hSt
   ·have e : Rd.pd (q + 1) (t :: r) = Rd.pq q t.at_ 4 r := by rw [Rd.pd, if_neg (by omega), if_neg (by omega), if_neg (by omega), if_pos (by omega), hk]
    rw [e] at hR ⊢
    exact datum_4 P tb C xs hG t r w hk _ (fun W hs hst => by unfold Rd.tokV; rw [hk]; exact quote_4 P tb C xs hG q hD' t.at_ _ _ _ r W hs hst hR) hSrc hSt
   ·have e : Rd.pd (q + 1) (t :: r) = Rd.pq q t.at_ 5 r := by rw [Rd.pd, if_neg (by omega), if_neg (by omega), if_neg (by omega), if_pos (by omega), hk]
    rw [e] at hR ⊢
    exact datum_5 P tb C xs hG t r w hk _ (fun W hs hst => by unfold Rd.tokV; rw [hk]; exact quote_5 P tb C xs hG q hD' t.at_ _ _ _ r W hs hst hR) hSrc hSt
   ·have e : Rd.pd (q + 1) (t :: r) = Rd.pq q t.at_ 6 r := by rw [Rd.pd, if_neg (by omega), if_neg (by omega), if_neg (by omega), if_pos (by omega), hk]
    rw [e] at hR ⊢
    exact datum_6 P tb C xs hG t r w hk _ (fun W hs hst => by unfold Rd.tokV; rw [hk]; exact quote_6 P tb C xs hG q hD' t.at_ _ _ _ r W hs hst hR) hSrc hSt
   ·have e : Rd.pd (q + 1) (t :: r) = Rd.pq q t.at_ 7 r := by rw [Rd.pd, if_neg (by omega), if_neg (by omega), if_neg (by omega), if_pos (by omega), hk]
    rw [e] at hR ⊢
    exact datum_7 P tb C xs hG t r w hk _ (fun W hs hst => by unfold Rd.tokV; rw [hk]; exact quote_7 P tb C xs hG q hD' t.at_ _ _ _ r W hs hst hR) hSrc hSt
   ·have e : Rd.pd (q + 1) (t :: r) = .bad t.at_ 40 := by rw [Rd.pd, if_neg (by omega), if_neg (by omega), if_pos (by omega)]
    rw [e]
    exact datum_8 P tb C xs hG t r w hk _ (fun W hs hst => (stray_any P tb C xs r t W hst).mono fun _ _ h => Rd.Out.of_fail h (by decide)) hSrc hSt
   ·have e : Rd.pd (q + 1) (t :: r) = .ok (Rd.leafD t.t) r := by rw [Rd.pd, if_neg (by omega), if_neg (by omega), if_neg (by omega), if_neg (by omega)]
    rw [e]
    exact datum_9 P tb C xs hG t r w hk _ (fun W hs hst => by unfold Rd.tokV; rw [hk]; exact (leaf_9 P _ _ _ _ W).mono fun _ _ h => Rd.Out.of_leaf hst (by rw [hk]; exact h.1) h.2) hSrc hSt
   ·have e : Rd.pd (q + 1) (t :: r) = .ok (Rd.leafD t.t) r := by rw [Rd.pd, if_neg (by omega), if_neg (by omega), if_neg (by omega), if_neg (by omega)]
    rw [e]
    exact datum_10 P tb C xs hG t r w hk _ (fun W hs hst => by unfold Rd.tokV; rw [hk]; exact (leaf_10 P _ _ _ _ W).mono fun _ _ h => Rd.Out.of_leaf hst (by rw [hk]; exact h.1) h.2) hSrc hSt
   ·have e : Rd.pd (q + 1) (t :: r) = .ok (Rd.leafD t.t) r := by rw [Rd.pd, if_neg (by omega), if_neg (by omega), if_neg (by omega), if_neg (by omega)]
    rw [e]
    exact datum_11 P tb C xs hG t r w hk _ (fun W hs hst => by unfold Rd.tokV; rw [hk]; exact (leaf_11 P _ _ _ _ W).mono fun _ _ h => Rd.Out.of_leaf hst (by rw [hk]; exact h.1) h.2) hSrc hSt
   ·have e : Rd.pd (q + 1) (t :: r) = .ok (Rd.leafD t.t) r := by rw [Rd.pd, if_neg (by omega), if_neg (by omega), if_neg (by omega), if_neg (by omega)]
    rw [e]
    exact datum_12 P tb C xs hG t r w hk _ (fun W hs hst => by unfold Rd.tokV; rw [hk]; exact (leaf_12 P _ _ _ _ W).mono fun _ _ h => Rd.Out.of_leaf hst (by rw [hk]; exact h.1) h.2) hSrc hSt
   ·have e : Rd.pd (q + 1) (t :: r) = .ok (Rd.leafD t.t) r := by rw [Rd.pd, if_neg (by omega), if_neg (by omega), if_neg (by omega), if_neg (by omega)]
    rw [e]
    exact datum_13 P tb C xs hG t r w hk _ (fun W hs hst => by unfold Rd.tokV; rw [hk]; exact (leaf_13 P _ _ _ _ W).mono fun _ _ h => Rd.Out.of_leaf hst (by rw [hk]; exact h.1) h.2) hSrc hSt
theorem datum_any (P tb C : Nat) (xs : List Lx.PTok) (hG : Rd.G P tb C xs) (f : Nat) : Rd.DatumIs P tb C xs f := by
 induction f using Nat.strongRecOn with
 | _ f ih => exact datum_step P tb C xs hG f ih
end Go.Proofs.Ytcopdfihaheplaa
namespace Go.Proofs.Ytcopdfihaheplaa
open Go.RowKit Go.Sort
namespace Lx
end Lx
end Go.Proofs.Ytcopdfihaheplaa
namespace Go.Proofs.Ytcopdfihaheplaa
open Go.RowKit Go.Sort
namespace Lx
def Row (w : World) (v : Value) (l : List PTok) : Prop :=
 (v = .slice none 0 0 ∧ l = []) ∨ ∃ g cap, v = .slice (some ⟨g, 0, none⟩) l.length cap ∧ ∀ j u, (flatT l)[j]? = some u → w.cell? ⟨g, j, none⟩ = some u
theorem flat_at : ∀ (l : List PTok) (k : Nat) (h : k < l.length) (i : Nat), i < 5 → (flatT l)[k * 5 + i]? = (cells5 l[k])[i]? := by
 intro l
 induction l with
 | nil => intro k h; exact absurd h (by simp)
 | cons a l ih =>
  intro k h i hi
  have e : flatT (a :: l) = cells5 a ++ flatT l := rfl
  rw [e]
  have h5 : (cells5 a).length = 5 := rfl
  cases k with
  | zero => rw [List.getElem?_append_left (by omega)]; simp
  | succ k =>
   rw [List.getElem?_append_right (by omega), h5, show (k + 1) * 5 + i - 5 = k * 5 + i by omega]
   simpa using ih k (by simpa using h) i hi
theorem Row.five {w : World} {g : Nat} {l : List PTok} (hc : ∀ j u, (flatT l)[j]? = some u → w.cell? ⟨g, j, none⟩ = some u) (k : Nat) (h : k < l.length) :
  w.cell? ⟨g, k * 5, none⟩ = some (.int .i64 l[k].t.k) ∧ w.cell? ⟨g, k * 5 + 1, none⟩ = some (.int .i64 (l[k].at_ : Int)) ∧ w.cell? ⟨g, k * 5 + 2, none⟩ = some (.int .i64 (l[k].to : Int)) ∧ w.cell? ⟨g, k * 5 + 3, none⟩ = some (.int .i64 l[k].t.n) ∧ w.cell? ⟨g, k * 5 + 4, none⟩ = some (.string ⟨l[k].t.s.toArray⟩) :=
 ⟨hc _ _ (flat_at l k h 0 (by omega)), hc _ _ (flat_at l k h 1 (by omega)), hc _ _ (flat_at l k h 2 (by omega)), hc _ _ (flat_at l k h 3 (by omega)), hc _ _ (flat_at l k h 4 (by omega))⟩
end Lx
end Go.Proofs.Ytcopdfihaheplaa
namespace Go.Proofs.Ytcopdfihaheplaa
open Go.RowKit Go.Sort
namespace Lx
end Lx
end Go.Proofs.Ytcopdfihaheplaa
namespace Go.Proofs.Ytcopdfihaheplaa.Lx
open Go.RowKit Go.Sort
def sg (c d : UInt8) : Nat × Nat :=
 if c == 40 then (1, 1) else if c == 41 then (2, 1) else if c == 39 then (4, 1) else if c == 96 then (5, 1)
 else if c == 44 then (if d == 64 then (7, 2) else (6, 1))
 else if c == 35 && d == 40 then (3, 2) else (0, 0)
end Go.Proofs.Ytcopdfihaheplaa.Lx
namespace Go.Proofs.Ytcopdfihaheplaa.Lx
open Go.RowKit Go.Sort
end Go.Proofs.Ytcopdfihaheplaa.Lx
namespace Go.Proofs.Ytcopdfihaheplaa.Lx
open Go.RowKit Go.Sort
end Go.Proofs.Ytcopdfihaheplaa.Lx
namespace Go.Proofs.Ytcopdfihaheplaa.Lx
open Go.RowKit Go.Sort
theorem words_few (N : Nat) : ∀ (f c : Nat) (t : List UInt8) (l : List PTok), c ≤ 4096 → words N f c t = (l, 0, 0) → c + l.length ≤ 4096 := by
 intro f
 induction f with
 | zero => intro c t l hc h; simp [words] at h; rw [h]; simpa using hc
 | succ f ih =>
  intro c t l hc h
  rw [words_step] at h
  split at h
  ·simp at h
  ·split at h
   ·simp at h; rw [h]; simpa using hc
   ·split at h
    ·simp at h
    ·rename_i h4
     split at h
     ·rename_i e he
      have := word_err _ _ he
      simp at h
      exact absurd h.2.2 this
     ·rename_i k rest he
      by_cases hz : (words N f (c + 1) rest).2.2 = 0
      ·rw [if_pos hz] at h
       have hr0 : words N f (c + 1) rest = ((words N f (c + 1) rest).1, 0, 0) := by
        have hn := words_norm N f (c + 1) rest
        unfold app at hn
        rw [if_pos hz] at hn
        rw [← hn]
       have hih := ih (c + 1) rest _ (by omega) hr0
       simp at h
       rw [← h]
       simp only [List.length_cons]
       omega
      ·rw [if_neg hz] at h
       simp at h
       try exact absurd h.2.2 hz
theorem lex_few (s : List UInt8) (l : List PTok) (h : lex s = (l, 0, 0)) : l.length ≤ 4096 := by
 unfold lex at h
 split at h
 ·simp at h
 ·split at h
  ·simp at h
  ·have := words_few _ _ _ _ _ (by omega) h
   omega
end Go.Proofs.Ytcopdfihaheplaa.Lx
namespace Go.Proofs.Ytcopdfihaheplaa
open Go.RowKit
namespace Lx
theorem sign_kind (t : List UInt8) (h : (sign t).1 ≠ 0) : 1 ≤ (sign t).1 ∧ (sign t).1 ≤ 7 := by
 have h7 : (sign t).1 ≤ 7 := by
  unfold sign
  repeat' split
  all_goals decide
 omega
theorem run_kind (t r : List UInt8) (k : Tok) (h : run t = .tok k r) : 1 ≤ k.k ∧ k.k ≤ 13 := by
 unfold run at h
 simp only at h
 split at h
 ·cases h; simp
 split at h
 ·cases h; simp
 split at h
 ·cases h; simp
 split at h
 ·split at h
  ·cases h; simp
  ·split at h <;> cases h
 ·split at h
  ·cases h; simp
  ·cases h
theorem word_kind (t r : List UInt8) (k : Tok) (h : word t = .tok k r) : 1 ≤ k.k ∧ k.k ≤ 13 := by
 unfold word at h
 split at h
 ·rename_i h0
  have := sign_kind t h0
  cases h
  show 1 ≤ ((sign t).1 : Int) ∧ ((sign t).1 : Int) ≤ 13
  omega
 split at h
 ·unfold str at h
  split at h
  ·cases h
  ·split at h
   ·split at h <;> cases h
    simp
   ·cases h
 split at h
 ·unfold char at h
  split at h
  ·cases h
  split at h <;> cases h
  simp
 ·exact run_kind t r k h
theorem words_kinds (N : Nat) : ∀ (f c : Nat) (t : List UInt8), ∀ p ∈ (words N f c t).1, 1 ≤ p.t.k ∧ p.t.k ≤ 13
 | 0, c, t, p, hp => by rw [words] at hp; cases hp
 | f + 1, c, t, p, hp => by
  rw [words] at hp
  simp only at hp
  split at hp
  ·cases hp
  split at hp
  ·cases hp
  split at hp
  ·cases hp
  split at hp
  ·cases hp
  ·rename_i k rest hw
   split at hp
   ·rcases List.mem_cons.1 hp with rfl | hp
    ·exact word_kind _ _ _ hw
    ·exact words_kinds N f (c + 1) rest p hp
   ·cases hp
theorem lex_kinds (s : List UInt8) : ∀ p ∈ (lex s).1, 1 ≤ p.t.k ∧ p.t.k ≤ 13 := by
 unfold lex
 split
 ·intro p hp; cases hp
 split
 ·intro p hp; cases hp
 ·exact words_kinds _ _ _ _
end Lx
namespace Rd
open Dt Lx
set_option maxRecDepth 100000 in
theorem infoF : (Try.prog.info? 43).map (fun i => (i.zero, i.size, i.bytes)) = some (some (.agg #[.int .i64 0, .int .i64 0, .int .i64 0, .string ⟨#[]⟩, .slice none 0 0, .slice none 0 0, .slice none 0 0]), 7, 112) := by kernel_rfl
def cells7 (p : Nat × Dt.P) : List Value := .int .i64 (p.1 : Int) :: p.2.cells
def flatF (fs : List (Nat × Dt.P)) : List Value := fs.flatMap cells7
structure FRow (w : World) (base : Nat) (v : Value) (fs : List (Nat × Dt.P)) : Prop where
 row : w.ownsRow base 43 7 v fs.length (flatF fs)
 rep : ∀ p ∈ fs, Rep (fun k => base ≤ k ∧ v.ownBlock ≠ some k) w p.2.d p.2.vm p.2.vl p.2.vt
theorem FRow.nil (w : World) (base : Nat) : FRow w base (.slice none 0 0) [] := ⟨World.ownsRow_nil _ _ _ _, by simp⟩
theorem FRow.keep {S : Nat → Prop} {w w' : World} {base : Nat} {v : Value} {fs : List (Nat × Dt.P)} (h : FRow w base v fs) (hk : Keep S w w') (hS : ∀ k, base ≤ k → k < w.heap.size → ¬ S k) : FRow w' base v fs :=
 ⟨own_keep h.row hk (fun k hk => hS k (own_lt h.row k hk).1 (own_lt h.row k hk).2), fun p hp => Rep.keep hk (fun b hb hb' => hS b hb.1 hb') p.2.d (h.rep p hp)⟩
theorem FRow.below {w w' : World} {base : Nat} {v : Value} {fs : List (Nat × Dt.P)} (h : FRow w base v fs) (hb : Below w.heap.size w w') : FRow w' base v fs :=
 h.keep (S := fun _ => False) ((Keep.refl _ w).below hb) (fun _ _ _ h => h)
theorem FRow.push {w wA w5 : World} {base : Nat} {v v' : Value} {fs : List (Nat × Dt.P)} {p : Nat × Dt.P} (h : FRow w base v fs) (hp : Rep (fun k => base ≤ k ∧ v.ownBlock ≠ some k) w p.2.d p.2.vm p.2.vl p.2.vt) (hA : Below w.heap.size w wA)
  (hown : w5.ownsRow base 43 7 v' (fs.length + 1) (flatF fs ++ cells7 p)) (hg : wA.grownBy w5 v.ownBlock) (hat : v'.ownBlock = v.ownBlock ∨ v'.ownBlock = some wA.heap.size) :
  FRow w5 base v' (fs ++ [p]) ∧ Keep (fun k => v.ownBlock = some k) w w5 := by
 have hK : Keep (fun k => v.ownBlock = some k) w w5 := ⟨hg.os.trans hA.os, hg.tape.trans hA.tape, hg.output.trans hA.output, Nat.le_trans hA.size hg.size, fun k hk hn => (hg.block k (by have := hA.size; omega) (fun e => hn e.symm)).trans (hA.block k hk)⟩
 refine ⟨⟨?_, fun q hq => ?_⟩, hK⟩
 ·have e : flatF (fs ++ [p]) = flatF fs ++ cells7 p := by unfold flatF; rw [List.flatMap_append, List.flatMap_singleton]
  rw [List.length_append, e]
  exact hown
 ·have hq' : Rep (fun k => base ≤ k ∧ v.ownBlock ≠ some k) w q.2.d q.2.vm q.2.vl q.2.vt := by
   rcases List.mem_append.1 hq with hq | hq
   ·exact h.rep q hq
   ·obtain rfl : q = p := by simpa using hq
    exact hp
  have hr0 : Rep (fun k => k < w.heap.size ∧ base ≤ k ∧ v.ownBlock ≠ some k) w q.2.d q.2.vm q.2.vl q.2.vt := Rep.mono (fun b hb hl => ⟨hl, hb⟩) q.2.d hq'
  refine Rep.mono (fun b hb _ => ⟨hb.2.1, fun e => ?_⟩) q.2.d (Rep.keep hK (fun b hb _ e => hb.2.2 e) q.2.d hr0)
  rcases hat with e' | e'
  ·rw [e'] at e; exact hb.2.2 e
  ·rw [e'] at e; cases e; have := hA.size; omega
def ReadPost (R : List (Nat × D) × Nat × Int) (w : World) (e : Ending) (w' : World) : Prop :=
 ∃ (a : Option Addr) (c : Nat) (fs : List (Nat × Dt.P)), e = .returned (.tuple #[.slice a R.1.length c, .int .i64 (R.2.1 : Int), .int .i64 R.2.2]) ∧ FRow w' w.heap.size (.slice a R.1.length c) fs ∧ fs.map (fun p => (p.1, p.2.d)) = R.1 ∧ Below w.heap.size w w'
theorem ReadPost.no {R : List (Nat × D) × Nat × Int} {w w' : World} {p : Nat} {c : Int} (h : R = ([], p, c)) (hb : Below w.heap.size w w') : ReadPost R w (.returned (.tuple #[.slice none 0 0, .int .i64 (p : Int), .int .i64 c])) w' := by
 subst h
 exact ⟨none, 0, [], rfl, FRow.nil _ _, rfl, hb⟩
theorem src_of_row {w : World} {base g cap : Nat} {xs : List PTok} (h : w.ownsRow base 47 5 (.slice (some ⟨g, 0, none⟩) xs.length cap) xs.length (flatT xs)) : Src w g xs :=
 ⟨(h.lt g rfl).2, fun i hi => Lx.Row.five (fun j u hu => by have := h.cells (g := g) rfl j u hu; rw [Addr.add_mid, Nat.zero_add] at this; exact this) i hi⟩
end Rd
end Go.Proofs.Ytcopdfihaheplaa
namespace Go.Proofs.Ytcopdfihaheplaa
open Go.RowKit
namespace Fx
def allFrom (s : ByteArray) (at_ : Nat) : Bool := (s.data.toList.drop at_).all isD
def pre (s : ByteArray) (at_ k : Nat) : List UInt8 := (s.data.toList.take k).drop at_
theorem val_ge (c : UInt8) (l : List UInt8) (hc : 1 ≤ c.toNat - 48) (_h : l.all isD = true) : 10 ^ l.length ≤ val (c :: l) := by
  have key : ∀ (l : List UInt8) (v k : Nat), 10 ^ k ≤ v → 10 ^ (k + l.length) ≤ l.foldl (fun v c => 10 * v + (c.toNat - 48)) v := by
    intro l
    induction l with
    | nil => intro v k hv; simpa using hv
    | cons d l ih =>
      intro v k hv
      rw [List.foldl_cons, List.length_cons, show k + (l.length + 1) = (k + 1) + l.length from by omega]
      refine ih _ _ ?_
      rw [Nat.pow_succ]; omega
  have := key l (10 * 0 + (c.toNat - 48)) 0 (by simpa using hc)
  rw [Nat.zero_add] at this
  exact this
end Fx
theorem b2 (p q : Bool) (h : p = q) : Ending.returned (.bool p) = .returned (.bool q) := by rw [h]
theorem Fx.at_eq (s : ByteArray) (h0 : 0 < s.size) (k : Nat) (hk : k < 256) : ((s[0].toNat : Int) == (k : Int)) = (s.data.toList.head? == some (UInt8.ofNat k)) := by
  rw [Fx.at0 s h0]
  by_cases h : s[0].toNat = k
  · have e : s[0] = UInt8.ofNat k := UInt8.toNat_inj.1 (by rw [h]; simp; omega)
    rw [beq_iff_eq.2 (show (s[0].toNat : Int) = k by omega), e]
    simp
  · have e : s[0] ≠ UInt8.ofNat k := fun e => h (by rw [e]; simp; omega)
    rw [beq_eq_false_iff_ne.2 (show (s[0].toNat : Int) ≠ k by omega)]
    exact (beq_eq_false_iff_ne.2 (fun h => e (by injection h))).symm
theorem Fx.cases (s : ByteArray) (P : Prop)
    (empty : s = ⟨#[]⟩ → P)
    (sign : ∀ h0 : 0 < s.size, s.size = 1 → ((s[0].toNat : Int) == 45) = true → Fx.form s.data.toList = false → P)
    (slead : ∀ h1 : 1 < s.size, ((s[0].toNat : Int) == 45) = true → ((s[1].toNat : Int) == 48) = true → Fx.form s.data.toList = false → P)
    (minus : ∀ h1 : 1 < s.size, ((s[0].toNat : Int) == 45) = true → ((s[1].toNat : Int) == 48) = false → Fx.form s.data.toList = Fx.allFrom s 1 → Fx.dig s.data.toList = s.data.toList.drop 1 → Fx.neg s.data.toList = true → P)
    (lead : ∀ h0 : 0 < s.size, 1 < s.size → ((s[0].toNat : Int) == 48) = true → Fx.form s.data.toList = false → P)
    (zero : ∀ h0 : 0 < s.size, s.size = 1 → ((s[0].toNat : Int) == 48) = true → Fx.form s.data.toList = Fx.allFrom s 0 → Fx.dig s.data.toList = s.data.toList.drop 0 → Fx.neg s.data.toList = false → P)
    (plain : ∀ h0 : 0 < s.size, ((s[0].toNat : Int) == 45) = false → ((s[0].toNat : Int) == 48) = false → Fx.form s.data.toList = Fx.allFrom s 0 → Fx.dig s.data.toList = s.data.toList.drop 0 → Fx.neg s.data.toList = false → P) : P := by
  by_cases h0 : s.size = 0
  · refine empty ?_
    obtain ⟨⟨l⟩⟩ := s
    cases l with
    | nil => rfl
    | cons c l => simp [ByteArray.size] at h0
  have hp : 0 < s.size := by omega
  have hl := Fx.size_toList s
  have q45 := Fx.at_eq s hp 45 (by omega)
  have q48 := Fx.at_eq s hp 48 (by omega)
  cases hm : (((s[0]'hp).toNat : Int) == 45)
  · have q45' : (s.data.toList.head? == some 45) = false := q45.symm.trans hm
    have hdig : Fx.dig s.data.toList = s.data.toList := by unfold Fx.dig; rw [if_neg (by simpa using q45')]
    have hneg : Fx.neg s.data.toList = false := q45'
    have hne : s.data.toList.isEmpty = false := by rw [List.isEmpty_eq_false_iff]; intro h; rw [h] at hl; simp at hl; omega
    cases hz : (((s[0]'hp).toNat : Int) == 48)
    · have q48' : (s.data.toList.head? == some 48) = false := q48.symm.trans hz
      exact plain hp hm hz (by unfold Fx.form Fx.allFrom; rw [hdig, q48', hne]; simp) hdig hneg
    · have q48' : (s.data.toList.head? == some 48) = true := q48.symm.trans hz
      by_cases h1 : s.size = 1
      · exact zero hp h1 hz (by unfold Fx.form Fx.allFrom; rw [hdig, q48', hne, hl, h1]; simp) hdig hneg
      · exact lead hp (by omega) hz (by unfold Fx.form; rw [hdig, q48', hl]; simp; omega)
  · have q45' : (s.data.toList.head? == some 45) = true := q45.symm.trans hm
    have hdig : Fx.dig s.data.toList = s.data.toList.tail := by unfold Fx.dig; rw [if_pos (by simpa using q45')]
    have hneg : Fx.neg s.data.toList = true := q45'
    by_cases h1 : s.size = 1
    · refine sign hp h1 hm ?_
      have : s.data.toList.tail = [] := List.eq_nil_of_length_eq_zero (by rw [List.length_tail]; omega)
      unfold Fx.form; rw [hdig, this]; rfl
    have h1' : 1 < s.size := by omega
    have hh : s.data.toList.tail.head? = some s[1] := by
      rw [List.head?_eq_getElem?, List.getElem?_tail, List.getElem?_eq_getElem (by rw [hl]; exact h1')]
      rfl
    have hne : s.data.toList.tail.isEmpty = false := by rw [List.isEmpty_eq_false_iff]; intro h; rw [h] at hh; cases hh
    cases hz : ((s[1].toNat : Int) == 48)
    · have : (some s[1] == some (48 : UInt8)) = false := by
        rw [beq_eq_false_iff_ne]; intro h; injection h with h; rw [h] at hz; revert hz; decide
      refine minus h1' hm hz ?_ (by rw [hdig, List.drop_one]) hneg
      unfold Fx.form Fx.allFrom; rw [hdig, hh, this, hne, List.drop_one]; simp
    · have h48 : s[1] = 48 := UInt8.toNat_inj.1 (by have : (s[1].toNat : Int) = 48 := by simpa using hz
                                                    have : s[1].toNat = 48 := by omega
                                                    rw [this]; rfl)
      refine slead h1' hm hz ?_
      unfold Fx.form; rw [hdig, hh, h48, hl]; simp; omega
end Go.Proofs.Ytcopdfihaheplaa
namespace Go.Proofs.Ytcopdfihaheplaa
open Go.RowKit
namespace Fx
end Fx
end Go.Proofs.Ytcopdfihaheplaa
namespace Go.Proofs.Ytcopdfihaheplaa.Fx
open Go.RowKit
theorem digU_toNat (n : Nat) : (digU n).toNat = 48 + n % 10 := by
 unfold digU
 rw [UInt8.toNat_ofNat']
 omega
theorem val_pos (c : UInt8) (l : List UInt8) (hc : isD c = true) (h : c.toNat ≠ 48) (hl : l.all isD = true) : 1 ≤ val (c :: l) := by
 have h1 : 1 ≤ c.toNat - 48 := by simp [isD] at hc; omega
 have := val_ge c l h1 hl
 exact Nat.le_trans (Nat.pow_pos (by omega)) this
theorem digF_of : ∀ (r : List UInt8) (f : Nat), r.length ≤ f + 1 → r ≠ [] → r.all isD = true → (r.length = 1 ∨ ∃ c l, r.reverse = c :: l ∧ c.toNat ≠ 48) → digF f (val r.reverse) = r.reverse := by
 intro r
 induction r with
 | nil => intro f _ h; exact absurd rfl h
 | cons c r ih =>
  intro f hf _ hall hh
  have hc : isD c = true ∧ r.all isD = true := by simpa using hall
  have hcn : 48 ≤ c.toNat ∧ c.toNat ≤ 57 := by simpa [isD] using hc.1
  have hu : ∀ v, digU (10 * v + (c.toNat - 48)) = c := fun v => UInt8.toNat_inj.1 (by rw [digU_toNat]; omega)
  rw [List.reverse_cons, val_snoc]
  cases r with
  | nil =>
   simp only [List.reverse_nil, List.nil_append, val, List.foldl_nil]
   have := hu 0
   cases f with
   | zero => simp only [digF]; rw [this]
   | succ f => rw [digF, if_pos (by omega), this]
  | cons d r =>
   obtain ⟨c', l', hr, hne⟩ : ∃ c l, (d :: r).reverse = c :: l ∧ c.toNat ≠ 48 := by
    rcases hh with hh | ⟨c', l', hr, hne⟩
    ·simp at hh
    ·rw [List.reverse_cons] at hr
     cases hrev : (d :: r).reverse with
     | nil => simp at hrev
     | cons x y => rw [hrev] at hr; injection hr with h1 _; exact ⟨x, y, rfl, by rw [h1]; exact hne⟩
   have hpos : 1 ≤ val (d :: r).reverse := by
    have ha : ((d :: r).reverse).all isD = true := by rw [List.all_reverse]; exact hc.2
    rw [hr] at ha ⊢
    have : isD c' = true ∧ l'.all isD = true := by simpa using ha
    exact val_pos c' l' this.1 hne this.2
   cases f with
   | zero => simp at hf
   | succ f =>
    have h2 := ih f (by simp at hf ⊢; omega) (by simp) hc.2 (.inr ⟨c', l', hr, hne⟩)
    rw [digF, if_neg (by omega), hu, show (10 * val (d :: r).reverse + (c.toNat - 48)) / 10 = val (d :: r).reverse from by omega, h2]
theorem digF_of' (l : List UInt8) (f : Nat) (h1 : l.length ≤ f + 1) (h2 : l ≠ []) (h3 : l.all isD = true) (h4 : l.length = 1 ∨ ∃ c m, l = c :: m ∧ c.toNat ≠ 48) : digF f (val l) = l := by
 have := digF_of l.reverse f (by simpa using h1) (by simpa using h2) (by rw [List.all_reverse]; exact h3) (by simpa using h4)
 rwa [List.reverse_reverse] at this
theorem fitsV_0 {n m : Int} (h : fitsV n = (m, 0)) : isF n = true ∧ m = n := by
 cases hn : isF n
 ·rw [fitsV_no hn] at h; cases h
 ·rw [fitsV_ok hn] at h; injection h with h _; exact ⟨rfl, h.symm⟩
theorem text_parse (s : List UInt8) (n : Int) (h : parse s = (n, 0)) : isF n = true ∧ textL n = s := by
 unfold parse at h
 split at h
 case isFalse => cases h
 rename_i hf
 split at h
 ·cases h
 rename_i hl
 unfold signedV at h
 split at h
 ·cases h
 obtain ⟨hF, hn⟩ := fitsV_0 h
 rw [← hn] at hF
 refine ⟨hF, ?_⟩
 unfold form at hf
 simp only [Bool.and_eq_true, Bool.not_eq_true', List.isEmpty_eq_false_iff] at hf
 obtain ⟨⟨h1, h2⟩, h3⟩ := hf
 cases hd : dig s with
 | nil => exact absurd hd h1
 | cons c l =>
  rw [hd] at hn h2 h3 hl
  have hca : isD c = true ∧ l.all isD = true := by simpa using h3
  cases hg : neg s
  ·rw [hg, if_neg (by decide)] at hn
   have hs : s = c :: l := by
    rw [← hd]; unfold dig; rw [if_neg]; exact beq_eq_false_iff_ne.1 hg
   have h4 : (c :: l).length = 1 ∨ ∃ d m, c :: l = d :: m ∧ d.toNat ≠ 48 := by
    by_cases hc : c.toNat = 48
    ·left
     have : c = 48 := UInt8.toNat_inj.1 (by rw [hc]; rfl)
     rw [hs, this] at h2
     have h6 : decide (1 < (48 :: l).length) = false := h2
     have h7 : ¬ 1 < (48 :: l).length := of_decide_eq_false h6
     simp only [List.length_cons] at h7 ⊢
     omega
    ·exact .inr ⟨c, l, rfl, hc⟩
   have := digF_of' (c :: l) 20 (by omega) (by simp) h3 h4
   unfold textL
   rw [hn, if_neg (by omega), Int.natAbs_natCast, this, hs]; rfl
  ·rw [hg, if_pos rfl] at hn
   have hh : s.head? = some 45 := by simpa [neg] using hg
   have hs : s = 45 :: c :: l := by
    rw [← hd]; unfold dig; rw [if_pos hh]
    cases s with
    | nil => cases hh
    | cons x y => injection hh with hx; rw [hx]; rfl
   have hc : c.toNat ≠ 48 := fun hc => by
    have : c = 48 := UInt8.toNat_inj.1 (by rw [hc]; rfl)
    rw [hs, this] at h2
    have h6 : decide (1 < (45 :: 48 :: l).length) = false := h2
    simp at h6
   have hv := val_pos c l hca.1 hc hca.2
   have := digF_of' (c :: l) 20 (by omega) (by simp) h3 (.inr ⟨c, l, rfl, hc⟩)
   unfold textL
   rw [hn, if_pos (by omega), Int.natAbs_neg, Int.natAbs_natCast, this, hs]; rfl
end Go.Proofs.Ytcopdfihaheplaa.Fx
namespace Go.Proofs.Ytcopdfihaheplaa
namespace Lx
def V (k : Tok) : Prop := -4611686018427387904 ≤ k.n ∧ k.n ≤ 4611686018427387904 ∧ k.s.length ≤ 256
theorem hex_bd (c : UInt8) (x : Nat) (h : hexOf c = some x) : x ≤ 255 := by
 have := c.toNat_lt
 unfold hexOf at h
 split at h
 ·cases h; omega
 split at h
 ·cases h; omega
 ·cases h
theorem two_bd (t : List UInt8) : -1 ≤ two t ∧ two t ≤ 1000 := by
 unfold two
 split
 ·rename_i h l r
  split
  ·rename_i x y hx hy
   have := hex_bd _ _ hx
   have := hex_bd _ _ hy
   split <;> omega
  ·omega
 ·omega
theorem names_bd (t : List UInt8) : -1 ≤ names t ∧ names t ≤ 1000 := by
 unfold names
 repeat' split
 all_goals first | omega | exact two_bd _ | (have := (t.headD 0).toNat_lt; omega)
theorem symbol_len (w : List UInt8) (h : symbol w = true) : w.length ≤ 32 := by
 unfold symbol at h
 simp only [Bool.or_eq_true, Bool.and_eq_true, decide_eq_true_eq, beq_iff_eq] at h
 rcases h with ((h | h) | h) | h
 ·rw [h]; decide
 ·rw [h]; decide
 ·rw [h]; decide
 ·exact h.1.1.2
theorem run_val (t r : List UInt8) (k : Tok) (h : run t = .tok k r) : V k := by
 unfold run at h
 simp only at h
 split at h
 ·cases h; exact ⟨by decide, by decide, by decide⟩
 split at h
 ·cases h; exact ⟨by decide, by decide, by decide⟩
 split at h
 ·cases h; exact ⟨by decide, by decide, by decide⟩
 split at h
 ·split at h
  ·rename_i h0
   cases h
   have hp : Fx.parse (t.takeWhile fun c => !ends c) = ((Fx.parse (t.takeWhile fun c => !ends c)).1, 0) := by rw [← h0]
   have := Fx.isF_bd (Fx.text_parse _ _ hp).1
   refine ⟨?_, ?_, by simp⟩
   ·show _ ≤ (Fx.parse (t.takeWhile fun c => !ends c)).1; omega
   ·show (Fx.parse (t.takeWhile fun c => !ends c)).1 ≤ _; omega
  ·split at h <;> cases h
 ·split at h
  ·rename_i hs
   cases h
   exact ⟨by simp, by simp, by have := symbol_len _ hs; show (t.takeWhile fun c => !ends c).length ≤ 256; omega⟩
  ·cases h
theorem word_val (t r : List UInt8) (k : Tok) (h : word t = .tok k r) : V k := by
 unfold word at h
 split at h
 ·cases h; exact ⟨by simp, by simp, by simp⟩
 split at h
 ·unfold str at h
  split at h
  ·cases h
  ·split at h
   ·split at h
    ·rename_i hq
     cases h
     exact ⟨by simp, by simp, hq⟩
    ·cases h
   ·cases h
 split at h
 ·unfold char at h
  split at h
  ·cases h
  split at h
  ·cases h
  ·cases h
   have := names_bd ((t.drop 2).take (nameLen (t.drop 2)))
   refine ⟨?_, ?_, by simp⟩
   ·show _ ≤ names ((t.drop 2).take (nameLen (t.drop 2))); omega
   ·show names ((t.drop 2).take (nameLen (t.drop 2))) ≤ _; omega
 ·exact run_val t r k h
theorem words_vals (N : Nat) : ∀ (f c : Nat) (t : List UInt8), ∀ p ∈ (words N f c t).1, V p.t
 | 0, c, t, p, hp => by rw [words] at hp; cases hp
 | f + 1, c, t, p, hp => by
  rw [words] at hp
  simp only at hp
  split at hp
  ·cases hp
  split at hp
  ·cases hp
  split at hp
  ·cases hp
  split at hp
  ·cases hp
  ·rename_i k rest hw
   split at hp
   ·rcases List.mem_cons.1 hp with rfl | hp
    ·exact word_val _ _ _ hw
    ·exact words_vals N f (c + 1) rest p hp
   ·cases hp
theorem lex_vals (s : List UInt8) : ∀ p ∈ (lex s).1, V p.t := by
 unfold lex
 split
 ·intro p hp; cases hp
 split
 ·intro p hp; cases hp
 ·exact words_vals _ _ _ _
end Lx
namespace Rd
open Dt Lx
def Vs (ts : List PTok) : Prop := ∀ p ∈ ts, V p.t
theorem wfs_app : ∀ {l r : List D}, Wfs l → Wfs r → Wfs (l ++ r)
 | [], _, _, h => h
 | d :: l, r, h1, h2 => by
  rw [Wfs] at h1
  rw [List.cons_append, Wfs]
  exact ⟨h1.1, wfs_app h1.2 h2⟩
theorem wfs_one {d : D} (h : Wf d) : Wfs [d] := by rw [Wfs, Wfs]; exact ⟨h, trivial⟩
theorem wfs_nil : Wfs [] := by rw [Wfs]; trivial
theorem wf_leaf {t : Tok} (h : V t) : Wf (leafD t) := by
 unfold leafD
 rw [Wf]
 refine ⟨⟨by have := h.1; omega, by have := h.2.1; omega⟩, ?_, by simp, by simp, by simp, wfs_nil, wfs_nil⟩
 have h2 := h.2.2
 show (⟨t.s.toArray⟩ : ByteArray).size ≤ _
 have : (⟨t.s.toArray⟩ : ByteArray).size = t.s.length := by show t.s.toArray.size = _; simp
 omega
theorem wf_row (k : Int) {l : List D} (h : Wfs l) (hl : l.length ≤ 100000) : Wf (.mk k 0 ⟨#[]⟩ [] l []) := by
 rw [Wf]
 exact ⟨by decide, by decide, by simp, by omega, by simp, h, wfs_nil⟩
theorem wf_sgn (k : Int) : Wf (symD (sgn k)) := by
 unfold symD
 rw [Wf]
 refine ⟨by decide, ?_, by simp, by simp, by simp, wfs_nil, wfs_nil⟩
 unfold sgn
 repeat' split
 all_goals decide
theorem wf_lt {d : D} (h : Wf d) : Wfs d.l ∧ Wfs d.t ∧ d.t.length ≤ 140737488355328 := by
 cases d
 rw [Wf] at h
 exact ⟨h.2.2.2.2.2.1, h.2.2.2.2.2.2, h.2.2.2.2.1⟩
theorem wf_join {acc : List D} {d : D} (ha : Wfs acc) (hl : acc.length + d.l.length ≤ 100000) (h : Wf d) : Wf (joinD acc d) := by
 obtain ⟨h1, h2, h3⟩ := wf_lt h
 unfold joinD
 split
 ·rw [Wf]
  exact ⟨by decide, by decide, by simp, by rw [List.length_append]; omega, h3, wfs_app ha h1, h2⟩
 ·rw [Wf]
  exact ⟨by decide, by decide, by simp, by omega, by simp, ha, wfs_one h⟩
def WR : Res → Prop
 | .ok d rest => Wf d ∧ Vs rest
 | _ => True
theorem res_wf : ∀ f, (∀ ts, ts.length ≤ 4096 → Vs ts → WR (pd f ts)) ∧ (∀ a k ts, ts.length ≤ 4096 → Vs ts → WR (pq f a k ts)) ∧ (∀ a acc ts, acc.length + ts.length ≤ 4096 → Wfs acc → Vs ts → WR (pl f a acc ts)) ∧ (∀ a acc ts, acc.length + ts.length ≤ 4096 → Wfs acc → Vs ts → WR (pt f a acc ts)) ∧ (∀ a acc ts, acc.length + ts.length ≤ 4096 → Wfs acc → Vs ts → WR (pv f a acc ts)) := by
 intro f
 induction f with
 | zero => exact ⟨fun _ _ _ => by rw [pd]; trivial, fun _ _ _ _ _ => by rw [pq]; trivial, fun _ _ _ _ _ _ => by rw [pl]; trivial, fun _ _ _ _ _ _ => by rw [pt]; trivial, fun _ _ _ _ _ _ => by rw [pv]; trivial⟩
 | succ f ih =>
  obtain ⟨h1, h2, h3, h4, h5⟩ := ih
  have htl : ∀ {t : PTok} {r : List PTok}, Vs (t :: r) → Vs r := fun h p hp => h p (List.mem_cons_of_mem _ hp)
  refine ⟨fun ts hn hv => ?_, fun a k ts hn hv => ?_, fun a acc ts hn ha hv => ?_, fun a acc ts hn ha hv => ?_, fun a acc ts hn ha hv => ?_⟩
  ·cases ts with
   | nil => rw [pd]; trivial
   | cons t r =>
    rw [pd]
    simp only [List.length_cons] at hn
    split
    ·exact h3 _ [] r (by simp; omega) wfs_nil (htl hv)
    split
    ·exact h5 _ [] r (by simp; omega) wfs_nil (htl hv)
    split
    ·trivial
    split
    ·exact h2 _ _ r (by omega) (htl hv)
    ·exact ⟨wf_leaf (hv t List.mem_cons_self), htl hv⟩
  ·cases ts with
   | nil => rw [pq]; trivial
   | cons x r =>
    rw [pq]
    have hw := h1 (x :: r) hn hv
    cases hp : pd f (x :: r) with
    | ok d rest =>
     rw [hp] at hw
     refine ⟨?_, hw.2⟩
     unfold quoteD listD
     refine wf_row 6 ?_ (by simp)
     rw [Wfs]
     exact ⟨wf_sgn k, wfs_one hw.1⟩
    | bad => trivial
    | out => trivial
  ·cases ts with
   | nil => rw [pl]; trivial
   | cons x r =>
    rw [pl]
    have hn' := hn
    simp only [List.length_cons] at hn
    split
    ·exact ⟨wf_row 6 ha (by omega), htl hv⟩
    split
    ·exact h4 _ acc r (by omega) ha (htl hv)
    ·have hw := h1 (x :: r) (by simp; omega) hv
     have hl := (res_len f).1 (x :: r) r.length (by simp)
     cases hp : pd f (x :: r) with
     | ok d rest => rw [hp] at hl hw; have : rest.length ≤ r.length := hl; exact h3 _ (acc ++ [d]) rest (by simp; omega) (wfs_app ha (wfs_one hw.1)) hw.2
     | bad => trivial
     | out => trivial
  ·cases ts with
   | nil => rw [pt]; trivial
   | cons x r =>
    rw [pt]
    have hw := h1 (x :: r) (by omega) hv
    have hm := (res_many f).1 (x :: r)
    cases hp : pd f (x :: r) with
    | ok d rest =>
     rw [hp] at hm hw
     cases rest with
     | nil => trivial
     | cons y rest =>
      have h6 : d.l.length + (rest.length + 1) ≤ (x :: r).length := hm
      simp only
      split
      ·exact ⟨wf_join ha (by omega) hw.1, htl hw.2⟩
      ·trivial
    | bad => trivial
    | out => trivial
  ·cases ts with
   | nil => rw [pv]; trivial
   | cons x r =>
    rw [pv]
    simp only [List.length_cons] at hn
    split
    ·exact ⟨wf_row 8 ha (by omega), htl hv⟩
    ·have hw := h1 (x :: r) (by simp; omega) hv
     have hl := (res_len f).1 (x :: r) r.length (by simp)
     cases hp : pd f (x :: r) with
     | ok d rest => rw [hp] at hl hw; have : rest.length ≤ r.length := hl; exact h5 _ (acc ++ [d]) rest (by simp; omega) (wfs_app ha (wfs_one hw.1)) hw.2
     | bad => trivial
     | out => trivial
end Rd
end Go.Proofs.Ytcopdfihaheplaa
