/-
  Several texts of this proof in one: RdRead, RdOne, CdFlow, CdOps, CdNeed, CdModel, CdOpen, CdOper, CdWaysP, CdAt, CdPut, ApS, RdWord, TxO, RdText, RdQuoted, RdPut, RdPrint, RdLines, RdAwM, RdAwake, DtMade, RdPlain, RdOpenD, RdRA, RdCutP, RdRowsP, BackP, RdBackP.
-/
import Derived.Test.YtcopdfihaheplaaReadB3ZM2
import Derived.Deep.QuietTactic
import Derived.BigQuiet
import Derived.IntWalk
import Derived.Test.YtcopdfihaheplaaPost
import Derived.Laws.Tables
import Derived.Laws.Rows
import Derived.Laws.CopyOwn
import Derived.Great.Walk
import Derived.Deep.DeepCutAuto
import Derived.Test.YtcopdfihaheplaaReadB3ZM1
import Derived.Lib.SmallJoins
import Derived.Test.YtcopdfihaheplaaApp
import Derived.Lib.AppendStr
import Derived.Lib.UnsafeStr
import Derived.Test.YtcopdfihaheplaaTxL
import Derived.Test.YtcopdfihaheplaaTxM
import Derived.Lib.Join
import Derived.Test.YtcopdfihaheplaaDtWalk
import Derived.Test.YtcopdfihaheplaaTxK
import Derived.Test.YtcopdfihaheplaaDtCheck
import Derived.Laws.BytesArg
import Derived.Deep.CutBlock
import Derived.Deep.Cut
import Derived.Test.YtcopdfihaheplaaTxN
import Derived.Laws.IdiomStrings
namespace Go.Proofs.Ytcopdfihaheplaa
open Go.RowKit
attribute [local go_sem] Oper.semAt_some
namespace Lx
theorem lex_zeroR (s : List UInt8) (h : (lex s).2.2 = 0) : (lex s).2.1 = 0 := by
 unfold lex at h ⊢
 split
 ·rfl
 ·rename_i h1
  rw [if_neg h1] at h
  split
  ·rename_i h2; rw [if_pos h2] at h; simp at h
  ·rename_i h2
   rw [if_neg h2] at h
   have hn := words_norm s.length (s.length + 1) 0 s
   unfold app at hn
   rw [if_pos h] at hn
   rw [← hn]
end Lx
namespace Rd
open Dt Lx
theorem words_form {w w1 : World} {v : Value} {xs : List PTok} (hown : w1.ownsRow w.heap.size 47 5 v xs.length (flatT xs)) :
  ∃ a C tb, v = .slice a xs.length C ∧ (xs ≠ [] → a = some ⟨tb, 0, none⟩ ∧ Src w1 tb xs) ∧ w1.heap.size ≠ tb ∧ xs.length ≤ C ∧ C ≤ 9223372036854775807 := by
 have hown' := hown
 rcases hown.2 with ⟨rfl, hz⟩ | ⟨g, cap, cur, rfl, _, hg, h1, h2, _⟩
 ·exact ⟨none, 0, w1.heap.size + 1, by rw [hz], fun h => absurd (List.eq_nil_of_length_eq_zero hz) h, by omega, by omega, by omega⟩
 ·exact ⟨_, cap, g, rfl, fun _ => ⟨rfl, src_of_row hown'⟩, by have := (Array.getElem?_eq_some_iff.1 hg).1; omega, h1, h2⟩
theorem FRow.le {w : World} {base base' : Nat} {v : Value} {fs : List (Nat × Dt.P)} (h : FRow w base v fs) (hb : base' ≤ base) : FRow w base' v fs :=
 ⟨own_base h.row hb, fun p hp => Rep.mono (fun b h1 _ => ⟨by omega, h1.2⟩) p.2.d (h.rep p hp)⟩
theorem src7 {w wD : World} {a b c d e f g : Value} {t : TypeId} (h : w.alloc (.cells #[a, b, c, d, e, f, g] t) = wD) : Ap.Src wD (.slice (some ⟨w.heap.size, 0, none⟩) 1 1) 1 [a, b, c, d, e, f, g] :=
 .inr ⟨_, _, rfl, fun j u hu => by
  rw [Addr.add_mid, Nat.zero_add]
  have h2 : #[a, b, c, d, e, f, g][j]? = some u := by rw [← hu]; simp
  exact (Hp.new h).cell j h2⟩
end Rd
set_option maxRecDepth 100000 in
set_option maxHeartbeats 16000000 in
theorem readRead_any (s : ByteArray) (w : World) (hs : s.size ≤ 9223372036854775807) :
  Calls Try.prog 14 #[.string s] w (Rd.ReadPost (Rd.read s.data.toList) w) := by
 have hW := Words_any s w hs
 have HVL := Lib.hid (Lx.lex_vals s.data.toList)
 have HKS := Lib.hid (Lx.lex_kinds s.data.toList)
 have HFW : Hid (∀ l, Lx.lex s.data.toList = (l, 0, 0) → l.length ≤ 4096) := Lx.lex_few _
 obtain ⟨RR, hRR⟩ : ∃ RR, Rd.read s.data.toList = RR := ⟨_, rfl⟩
 rw [hRR]
 unfold Rd.read at hRR
 have HLZ : Hid ((Lx.lex s.data.toList).2.2 = 0 → Lx.lex s.data.toList = ((Lx.lex s.data.toList).1, 0, 0)) := fun h => Prod.ext rfl (Prod.ext (Lx.lex_zeroR _ h) h)
 obtain ⟨LL, hLL⟩ : ∃ LL, Lx.lex s.data.toList = LL := ⟨_, rfl⟩
 rw [hLL] at hW HVL HKS hRR HFW HLZ
 obtain ⟨xs, lp, lc⟩ := LL
 simp only at hRR
 clear hLL
 go_enter Try.func14, Try.ntmps14
 go_wp2_with fail
 refine hW.mono ?_
 rintro e w1 ⟨hb1, ⟨hc, v, rfl, hown⟩ | ⟨hc, rfl⟩⟩
 case inr =>
  simp only at hc
  rw [if_pos hc] at hRR
  have hc1 : (lc != 0) = true := by simpa using hc
  have HE := Lib.hid (Rd.ReadPost.no hRR.symm hb1)
  clear hW hRR hb1 hc
  go_wp2
  refine bodyPost_ret (v := .tuple #[.slice none 0 0, .int .i64 (lp : Int), .int .i64 lc]) (by simp [results, Try.results14, go_sem, *]) rfl ?_
  exact HE.out
 case inl =>
  simp only at hc hown
  subst hc
  rw [if_neg (by decide)] at hRR
  obtain ⟨a0, C, tb, rfl, hSrc, hPtb, hxC, hC2⟩ := Rd.words_form hown
  have hfew : xs.length ≤ 4096 := HFW.out xs (HLZ.out rfl)
  obtain ⟨P, hP⟩ : ∃ P, w1.heap.size = P := ⟨_, rfl⟩
  obtain ⟨w2, hw2⟩ : ∃ w2, w1.alloc (.cells #[.slice a0 xs.length C, .int .i64 0, .int .i64 0] 69) = w2 := ⟨_, rfl⟩
  obtain ⟨hb2, hs2⟩ := new_below hw2
  have hP2 := Hp.new hw2
  rw [hP] at hP2 hs2 hPtb
  have HG : Hid (Rd.G P tb C xs) := ⟨hPtb, hxC, hfew, hC2, HKS.out⟩
  have HST2 : Hid (Rd.St w2 P tb C xs xs 0 0) := ⟨a0, [], hP2, rfl, fun h => (hSrc h).1⟩
  have HSRC : Hid (xs ≠ [] → Rd.Src w2 tb xs) := fun h => (hSrc h).2.below hb2
  have HB2 : Hid (Below w.heap.size w w2) := hb1.trans (hb2.mono hb1.size)
  have HS2 : Hid (w2.heap.size = P + 1 ∧ w.heap.size ≤ P) := ⟨hs2, by have := hb1.size; omega⟩
  have HRR : Hid (Rd.rf (xs.length + 1) xs [] = RR) := hRR
  have HR0 : Hid (Rd.FRow w2 (P + 1) (.slice none 0 0) [] ∧ ([] : List (Nat × Dt.P)).length = 0) := ⟨Rd.FRow.nil _ _, rfl⟩
  have HW2 := Lib.hid hw2
  obtain ⟨i0, hi, hz0, hz1, hz2⟩ := info_parts Rd.infoF
  have HI1 := Lib.hid hi
  have HZ0 := Lib.hid hz0
  have HZ1 := Lib.hid hz1
  have HZ2 := Lib.hid hz2
  have HPP := Lib.hid hP
  have HVX : Hid (∀ p ∈ xs, Lx.V p.t) := HVL.out
  clear hW hown hSrc hPtb hxC hC2 hfew hb1 hb2 hs2 hP2 hRR hi hz0 hz1 hz2 HVL HKS HFW HLZ hw2
  go_wp2
  rw [HW2.out]
  clear hP
  go_loopw [9] (fun vo wr => ∃ (k : Nat) (qs : List (Nat × Dt.P)) (al : Option Addr) (cl f : Nat) (us : List Lx.PTok), vo = .slice al k cl ∧ Hid (Rd.FRow wr (P + 1) (.slice al k cl) qs ∧ qs.length = k ∧ k ≤ 256) ∧ Hid (Rd.St wr P tb C xs us 0 0) ∧ Hid (Rd.rf f us (qs.map (fun p => (p.1, p.2.d))) = RR ∧ us.length + 1 ≤ f) ∧ Hid (Keep (fun j => P ≤ j) w2 wr)) (fun _ wr => Rd.meas wr P)
  case atStart => exact ⟨0, [], none, 0, xs.length + 1, xs, rfl, ⟨HR0.out.1, rfl, by omega⟩, HST2, ⟨HRR.out, Nat.le_refl _⟩, Keep.refl _ _⟩
  case round =>
   clear HR0 HST2 HRR
   obtain ⟨k, qs, al, cl, f, us, rfl, HRW, HST, HF, HK⟩ := hrel
   obtain ⟨pa, pre, hP, hpre, hpa⟩ := HST.out
   have hmeas := HST.out.meas
   have p0 := hP.cell 0 rfl
   have HBW : Hid (Below w.heap.size w wr) := HB2.out.trans (HK.out.to_below (fun j e => by have := HS2.out; omega) (by have := HS2.out; have := HB2.out.size; omega))
   obtain ⟨q, rfl⟩ : ∃ q, f = q + 1 := ⟨f - 1, by have := HF.out.2; omega⟩
   have HUS : Hid (∀ p ∈ us, Lx.V p.t) := fun p hp => HVX.out p (by rw [hpre]; exact List.mem_append_right _ hp)
   cases us with
   | nil =>
    have hrf := HF.out.1
    rw [Rd.rf] at hrf
    have HE : Hid (Rd.ReadPost RR w (.returned (.tuple #[.slice al k cl, .int .i64 0, .int .i64 0])) wr) := by
     have hl := HRW.out.2.1
     rw [← hrf]
     subst hl
     refine ⟨al, cl, qs, by simp, ?_, rfl, HBW.out⟩
     have := HRW.out.1.le (base' := w.heap.size) (by have := HS2.out; omega)
     simpa using this
    rw [List.length_nil] at p0
    clear hP hpre hpa hmeas hrf
    go_wp2
    refine bodyPost_ret (v := .tuple #[.slice al k cl, .int .i64 0, .int .i64 0]) (by simp [results, Try.results14, go_sem, *]) rfl ?_
    exact HE.out
   | cons t r =>
    obtain rfl := hpa (by simp)
    have hlen : xs.length = pre.length + (r.length + 1) := by rw [hpre]; simp
    have hpi : pre.length < xs.length := by omega
    have hxne : xs ≠ [] := fun e => by rw [e] at hpi; exact absurd hpi (Nat.not_lt_zero _)
    have hsrc := (HSRC.out hxne).keep HK.out (fun e => by
     have h1 := (HSRC.out hxne).lt
     have h2 := HG.out.ne
     have h3 := HS2.out.1
     omega)
    obtain ⟨-, x1, -, -, -⟩ := hsrc.tok pre.length hpi
    have hxi : xs[pre.length] = t := by simp only [hpre]; simp
    rw [hxi] at x1
    rw [show (t :: r).length = r.length + 1 from rfl] at p0
    have hrf := HF.out.1
    rw [Rd.rf] at hrf
    have hrl : r.length ≤ 4095 := by have := HG.out.few; omega
    have HWF := (Rd.res_wf (2 * (r.length + 1))).1 (t :: r) (by simp only [List.length_cons]; omega) HUS.out
    have hfl : r.length + 1 ≤ q := by have := HF.out.2; simp only [List.length_cons] at this; omega
    have hdo : Rd.pd (2 * (r.length + 1)) (t :: r) ≠ .out := (Rd.fuel _).1 (t :: r) (by simp only [List.length_cons]; omega) (by simp)
    have hrs := (Rd.res_len (2 * (r.length + 1))).1 (t :: r) r.length (by simp)
    have hcall := datum_any P tb C xs HG.out (2 * (r.length + 1)) (t :: r) wr (by simp) hsrc HST.out hdo
    obtain ⟨RES, hRES⟩ : ∃ RES, Rd.pd (2 * (r.length + 1)) (t :: r) = RES := ⟨_, rfl⟩
    rw [hRES] at hrf HWF hdo hrs hcall
    obtain ⟨n, hn⟩ : ∃ n, r.length = n := ⟨_, rfl⟩
    obtain ⟨cc, hcc⟩ : ∃ cc, C - pre.length = cc := ⟨_, rfl⟩
    obtain ⟨qq, hqq⟩ : ∃ qq, pre.length * 5 = qq := ⟨_, rfl⟩
    obtain ⟨ta, hta⟩ : ∃ ta, t.at_ = ta := ⟨_, rfl⟩
    rw [hn, hcc, hqq] at p0
    rw [hqq, hta] at x1
    rw [hta] at hrf
    rw [List.length_map, HRW.out.2.1] at hrf
    have hn0 : (0 : Int) < (n : Int) + 1 := by omega
    have hn1 : (0 : Int) ≤ (n : Int) := by omega
    have HN : Hid (r.length = n) := hn
    have HQ : Hid (n + 1 ≤ q) := by have := hn ▸ hfl; exact this
    clear hP hpre hpa hlen hpi hxi hn hcc hqq hta hfl hRES hrl hsrc
    by_cases h256 : k = 256
    case pos =>
     rw [if_pos h256] at hrf
     have HE := Lib.hid (Rd.ReadPost.no hrf.symm HBW.out)
     have hki : (k : Int) = 256 := by omega
     have hk1 : ((k : Int) == 256) = true := by simp [hki]
     clear hcall hdo hrs HWF hrf hmeas h256 hki
     go_wp2
     refine bodyPost_ret (v := .tuple #[.slice none 0 0, .int .i64 (ta : Int), .int .i64 3]) (by simp [results, Try.results14, go_sem, *]) rfl ?_
     exact HE.out
    case neg =>
     rw [if_neg h256] at hrf
     have hk1 : ((k : Int) == 256) = false := by simp; omega
     have HK1 : Hid (k + 1 ≤ 256) := by have := HRW.out.2.2; show _ ≤ _; omega
     have HRF := Lib.hid hrf
     have HDO := Lib.hid hdo
     have HRS := Lib.hid hrs
     have HWFH := Lib.hid HWF
     have HM := Lib.hid hmeas
     clear hrf hdo hrs HWF hmeas h256
     go_wp2_with fail
     refine hcall.mono ?_
     rintro e w4 ⟨y, vm, vl, vt, rest, a2, e2, rfl, hr4, hz4, hst4, hk4, hsays⟩
     obtain ⟨b1, m1, p1, b2, m2, p2, b3, m3, p3, rfl, rfl, rfl⟩ := hr4.forms
     clear hcall p0 x1
     have hrow4 := HRW.out.1.keep hk4 (fun j hj _ e => by omega)
     obtain ⟨w5, hw5⟩ : ∃ w5, w4.alloc (.cells #[.int .i64 y.k, .int .i64 y.n, .string y.s, .slice b1 m1 p1, .slice b2 m2 p2, .slice b3 m3 p3] 25) = w5 := ⟨_, rfl⟩
     obtain ⟨hb5, hs5⟩ := new_below hw5
     have hX5 := Hp.new hw5
     obtain ⟨X, hX⟩ : ∃ X, w4.heap.size = X := ⟨_, rfl⟩
     rw [hX] at hX5
     have hrow5 := hrow4.below hb5
     have hst5 := hst4.below hb5
     have hr5 := hr4.below hb5
     have HK5 : Hid (Keep (fun j => j = P) wr w5) := hk4.trans (keep_of_below hb5)
     have HROW5 := Lib.hid hrow5
     have HST5 := Lib.hid hst5
     have HR5 := Lib.hid hr5
     have HX5 := Lib.hid hX5
     have HWR : Hid (P + 1 ≤ wr.heap.size) := by have h1 := HS2.out.1; have h2 := HK.out.size; show _ ≤ _; omega
     obtain ⟨pa5, pre5, hP5, hpre5, hpa5⟩ := hst5
     have p1' := hP5.cell 1 rfl
     have p2' := hP5.cell 2 rfl
     clear hb5 hs5 hrow4 hst4 hk4 hr4 hz4
     rcases hsays with ⟨hpd, rfl, rfl⟩ | ⟨b, c, hpd, rfl, rfl, hc0⟩
     case inr =>
      have he1 : (e2 != 0) = true := by simpa using hc0
      have hrf := HRF.out
      rw [hpd] at hrf
      have hbw : Below w.heap.size w w5 := HBW.out.trans (HK5.out.to_below (fun j e => by have := HS2.out; omega) (by have := HBW.out.size; omega))
      have HE : Hid (∀ z, Rd.ReadPost RR w (.returned (.tuple #[.slice none 0 0, .int .i64 (b : Int), .int .i64 e2])) (w5.drewN z)) := fun z => Rd.ReadPost.no hrf.symm (Dt.bdrew hbw z)
      clear hrow5 hr5 hX5 hP5 hpre5 hpa5 hpd hc0 hrf hbw
      go_wp2
      go_quiet (fail)
      go_wp2
      refine bodyPost_ret (v := .tuple #[.slice none 0 0, .int .i64 (b : Int), .int .i64 e2]) (by simp [results, Try.results14, go_sem, *]) rfl ?_
      exact HE.out _
     case inl =>
      have he1 : ((0 : Int) != 0) = false := rfl
      have hwf : Dt.Wf y := by have := HWFH.out; rw [hpd] at this; exact this.1
      have hck := dCheck_any y _ _ _ w5 hwf hr5
      have hrf := HRF.out
      rw [hpd] at hrf
      simp only at hrf
      have hrl : rest.length ≤ r.length := by have := HRS.out; rw [hpd] at this; exact this
      have x0 := hX5.cell 0 rfl
      have x1 := hX5.cell 1 rfl
      have x2 := hX5.cell 2 rfl
      have x3 := hX5.cell 3 rfl
      have x4 := hX5.cell 4 rfl
      have x5 := hX5.cell 5 rfl
      obtain ⟨CK, hCK⟩ : ∃ CK, Dt.check y = CK := ⟨_, rfl⟩
      rw [hCK] at hck hrf
      have HRF2 := Lib.hid hrf
      have HRL := Lib.hid hrl
      clear hrow5 hr5 hX5 hP5 hpre5 hpa5 hpd hrf hrl hwf hCK
      go_wp2_with fail
      refine hck.mono ?_
      rintro e w6 ⟨rfl, hb6⟩
      clear hck p1' p2' x0 x1 x2 x3 x4 x5 hw5
      by_cases h0 : CK = 0
      case neg =>
       have h1 : (CK != 0) = true := by simpa using h0
       have hrf := HRF2.out
       rw [if_neg h0] at hrf
       have hbw : Below w.heap.size w w6 := (HBW.out.trans (HK5.out.to_below (fun j e => by have := HS2.out; omega) (by have := HBW.out.size; omega))).trans (hb6.mono (by have := HBW.out.size; have := HK5.out.size; omega))
       have HE := Lib.hid (Rd.ReadPost.no hrf.symm hbw)
       clear hrf hbw h0 hb6
       go_wp2
       refine bodyPost_ret (v := .tuple #[.slice none 0 0, .int .i64 (ta : Int), .int .i64 CK]) (by simp [results, Try.results14, go_sem, *]) rfl ?_
       exact HE.out
      case pos =>
       subst h0
       have h1 : ((0 : Int) != 0) = false := rfl
       have hX6 := HX5.out.below hb6
       have hrow6 := HROW5.out.below hb6
       have hst6 := HST5.out.below hb6
       have hr6 := HR5.out.below hb6
       have x0 := hX6.cell 0 rfl
       have x1 := hX6.cell 1 rfl
       have x2 := hX6.cell 2 rfl
       have x3 := hX6.cell 3 rfl
       have x4 := hX6.cell 4 rfl
       have x5 := hX6.cell 5 rfl
       obtain ⟨w7, hw7⟩ : ∃ w7, w6.alloc (.cells #[.int .i64 (ta : Int), .int .i64 y.k, .int .i64 y.n, .string y.s, .slice b1 m1 p1, .slice b2 m2 p2, .slice b3 m3 p3] 43) = w7 := ⟨_, rfl⟩
       have hb7 := (new_below hw7).1
       have hsr7 := Rd.src7 hw7
       have hown7 := (hrow6.below hb7).row
       rw [HRW.out.2.1] at hown7
       have hbs7 : P + 1 ≤ w7.heap.size := by have h1 := HWR.out; have h2 := HK5.out.size; have h3 := hb6.size; have h4 := hb7.size; omega
       have hm1 : k + 1 ≤ maxLen := by have := HK1.out; unfold maxLen; omega
       have hm2 : (k + 1) * 112 ≤ 140737488355328 := by have := HK1.out; omega
       have HROW6 := Lib.hid hrow6
       have HST6 := Lib.hid hst6
       have HR6 := Lib.hid hr6
       have HB7 := Lib.hid hb7
       have HK6 : Hid (Keep (fun j => j = P) wr w6) := HK5.out.trans (keep_of_below hb6)
       clear hX6 hrow6 hst6 hr6 hb7 hb6
       go_wp2_with (at_builtin; refine Ap.list rfl _ _ 39 rfl (P + 1) 43 i0 (.agg #[.int .i64 0, .int .i64 0, .int .i64 0, .string ⟨#[]⟩, .slice none 0 0, .slice none 0 0, .slice none 0 0]) 7 112 Try.underlying39 HI1.out HZ0.out HZ1.out HZ2.out rfl (by decide) (.slice al k cl) k (Rd.flatF qs) rfl hown7 (.slice (some ⟨w6.heap.size, 0, none⟩) 1 1) 1 [.int .i64 (ta : Int), .int .i64 y.k, .int .i64 y.n, .string y.s, .slice b1 m1 p1, .slice b2 m2 p2, .slice b3 m3 p3] rfl hsr7 rfl (by simp [Value.oneCell']) hm1 hm2 hbs7 ?_)
       intro v8 w8 hown8 hgr8 hat8
       obtain ⟨a8, c8, rfl⟩ := Dt.row_form hown8
       have hlq := HRW.out.2.1
       have hvb : ∀ j, (Value.slice al k cl).ownBlock = some j → P + 1 ≤ j ∧ j < wr.heap.size := fun j e => Dt.own_lt HRW.out.1.row j e
       obtain ⟨g1, g2⟩ := HROW6.out.push (p := (ta, ⟨y, .slice b1 m1 p1, .slice b2 m2 p2, .slice b3 m3 p3⟩)) (Dt.Rep.mono (fun j hj _ => ⟨by have := HWR.out; omega, fun e => by have := hvb j e; omega⟩) y HR6.out) HB7.out (by rw [hlq]; exact hown8) hgr8 hat8
       have hst8 : Rd.St w8 P tb C xs rest 0 0 := HST6.out.keep g2 (fun e => by have := hvb P e; omega)
       have HN8 : Hid (Rd.FRow w8 (P + 1) (.slice a8 (k + 1) c8) (qs ++ [(ta, Dt.P.mk y (.slice b1 m1 p1) (.slice b2 m2 p2) (.slice b3 m3 p3))]) ∧ (qs ++ [(ta, Dt.P.mk y (.slice b1 m1 p1) (.slice b2 m2 p2) (.slice b3 m3 p3))]).length = k + 1 ∧ k + 1 ≤ 256) := ⟨g1, by rw [List.length_append, hlq]; rfl, HK1.out⟩
       have HF8 : Hid (Rd.rf q rest ((qs ++ [(ta, Dt.P.mk y (.slice b1 m1 p1) (.slice b2 m2 p2) (.slice b3 m3 p3))]).map (fun p => (p.1, p.2.d))) = RR ∧ rest.length + 1 ≤ q) := by
        refine ⟨?_, by have h1 := HRL.out; have h2 := HN.out; have h3 := HQ.out; omega⟩
        have hrf := HRF2.out
        rw [if_pos trivial] at hrf
        rw [List.map_append]
        exact hrf
       have HK8 : Hid (Keep (fun j => P ≤ j) w2 w8) := (HK.out.trans (HK6.out.le (fun j e => by omega))).trans (g2.le (fun j e => by have := hvb j e; omega))
       have HST8 := Lib.hid hst8
       have HM8 : Hid (Rd.meas w8 P < Rd.meas wr P) := by
        show _ < _
        rw [hst8.meas, HM.out, if_pos rfl, if_pos trivial]
        have h1 := HRL.out
        simp only [List.length_cons]
        omega
       clear hown8 hgr8 hat8 hlq hvb g1 g2 hst8 hown7 hsr7 hbs7 hm1 hm2 hw7 x0 x1 x2 x3 x4 x5
       go_wp2
       go_roundw
       case rel => exact ⟨k + 1, _, a8, c8, q, rest, rfl, HN8, HST8, HF8, HK8⟩
       case measure => exact HM8.out
end Go.Proofs.Ytcopdfihaheplaa
namespace Go.Proofs.Ytcopdfihaheplaa
open Go.RowKit
attribute [local go_sem] Oper.semAt_some
namespace Rd
open Dt Lx
def zd : D := .mk 0 0 ⟨#[]⟩ [] [] []
def oneR (R : List (Nat × D) × Nat × Int) : D × Int := if R.2.2 ≠ 0 then (zd, R.2.2) else match R.1 with
 | [p] => (p.2, 0)
 | _ => (zd, 5)
def one (s : List UInt8) : D × Int := oneR (read s)
def OnePost (R : D × Int) (w : World) (e : Ending) (w' : World) : Prop :=
 ∃ (vm vl vt : Value), e = .returned (.tuple #[.agg #[.int .i64 R.1.k, .int .i64 R.1.n, .string R.1.s, vm, vl, vt], .int .i64 R.2]) ∧ Rep (fun k => w.heap.size ≤ k) w' R.1 vm vl vt ∧ Below w.heap.size w w'
theorem OnePost.zero {R : D × Int} {w w2 : World} {c : Int} (h : R = (zd, c)) (hb : Below w.heap.size w w2) :
  OnePost R w (.returned (.tuple #[.agg #[.int .i64 0, .int .i64 0, .string ⟨#[]⟩, .slice none 0 0, .slice none 0 0, .slice none 0 0], .int .i64 c])) (set6 w2 w.heap.size (.int .i64 0) (.int .i64 0) (.string ⟨#[]⟩) (.slice none 0 0) (.slice none 0 0) (.slice none 0 0)) := by
 subst h
 exact ⟨_, _, _, rfl, rep_zero _ _, hb.trans ((set6_keep w2 w.heap.size _ _ _ _ _ _).to_below (fun k e => by omega) hb.size)⟩
end Rd
set_option maxRecDepth 100000 in
set_option maxHeartbeats 16000000 in
theorem readOne_any (s : ByteArray) (w : World) (hs : s.size ≤ 9223372036854775807) :
  Calls Try.prog 10 #[.string s] w (Rd.OnePost (Rd.one s.data.toList) w) := by
 obtain ⟨w1, hw1⟩ : ∃ w1, w.alloc (.cells #[.int .i64 0, .int .i64 0, .string ⟨#[]⟩, .slice none 0 0, .slice none 0 0, .slice none 0 0] 25) = w1 := ⟨_, rfl⟩
 have hrd := readRead_any s w1 hs
 obtain ⟨hb1, hs1⟩ := new_below hw1
 have hR1 := Hp.new hw1
 unfold Rd.one
 obtain ⟨RR, hRR⟩ : ∃ RR, Rd.read s.data.toList = RR := ⟨_, rfl⟩
 rw [hRR] at hrd ⊢
 clear hRR
 obtain ⟨L, p, c⟩ := RR
 obtain ⟨R, hR⟩ : ∃ R, w.heap.size = R := ⟨_, rfl⟩
 rw [hR] at hR1 hs1
 have HN : Hid (w.heap.size = R ∧ w1.heap.size = R + 1) := ⟨hR, hs1⟩
 have HB1 := Lib.hid hb1
 have HR1 := Lib.hid hR1
 clear hb1 hs1 hR1
 go_enter Try.func10, Try.ntmps10
 go_wp2_with fail
 refine hrd.mono ?_
 rintro e w2 ⟨a, cp, fs, rfl, hrow, hmap, hb2⟩
 simp only at hmap
 have hR2 := HR1.out.below hb2
 have hbw : Below w.heap.size w w2 := HB1.out.trans (hb2.mono HB1.out.size)
 have r0 := hR2.cell 0 rfl
 have r1 := hR2.cell 1 rfl
 have r2 := hR2.cell 2 rfl
 have r3 := hR2.cell 3 rfl
 have r4 := hR2.cell 4 rfl
 have r5 := hR2.cell 5 rfl
 have k0 := hR2.frz 0
 have k1 := hR2.frz 1
 have k2 := hR2.frz 2
 have k3 := hR2.frz 3
 have k4 := hR2.frz 4
 have k5 := hR2.frz 5
 have HROW := Lib.hid hrow
 have HMAP := Lib.hid hmap
 have HBW := Lib.hid hbw
 clear hrd hrow hmap hb2 hR2 hbw hw1
 by_cases hc : c = 0
 case neg =>
  have hc1 : (c != 0) = true := by simpa using hc
  have HE : Hid (Rd.OnePost (Rd.oneR (L, p, c)) w (.returned (.tuple #[.agg #[.int .i64 0, .int .i64 0, .string ⟨#[]⟩, .slice none 0 0, .slice none 0 0, .slice none 0 0], .int .i64 c])) (set6 w2 R (.int .i64 0) (.int .i64 0) (.string ⟨#[]⟩) (.slice none 0 0) (.slice none 0 0) (.slice none 0 0))) := by
   have := Rd.OnePost.zero (R := Rd.oneR (L, p, c)) (c := c) (by unfold Rd.oneR; rw [if_pos hc]) HBW.out
   rw [HN.out.1] at this
   exact this
  clear hc
  go_wp2
  refine bodyPost_ret (v := .tuple #[.agg #[.int .i64 0, .int .i64 0, .string ⟨#[]⟩, .slice none 0 0, .slice none 0 0, .slice none 0 0], .int .i64 c]) (by simp [results, Try.results10, go_sem, *]) rfl ?_
  exact HE.out
 case pos =>
  subst hc
  have hc1 : ((0 : Int) != 0) = false := rfl
  obtain ⟨n, hn⟩ : ∃ n, L.length = n := ⟨_, rfl⟩
  rw [hn]
  by_cases h1 : n = 1
  case neg =>
   have hn1 : ((n : Int) != 1) = true := by simp; omega
   have HE : Hid (Rd.OnePost (Rd.oneR (L, p, 0)) w (.returned (.tuple #[.agg #[.int .i64 0, .int .i64 0, .string ⟨#[]⟩, .slice none 0 0, .slice none 0 0, .slice none 0 0], .int .i64 5])) (set6 w2 R (.int .i64 0) (.int .i64 0) (.string ⟨#[]⟩) (.slice none 0 0) (.slice none 0 0) (.slice none 0 0))) := by
    have := Rd.OnePost.zero (R := Rd.oneR (L, p, 0)) (c := 5) (by
     unfold Rd.oneR
     rw [if_neg (by simp)]
     cases L with
     | nil => rfl
     | cons x L =>
      cases L with
      | nil => exact absurd hn.symm h1
      | cons y L => rfl) HBW.out
    rw [HN.out.1] at this
    exact this
   clear h1 hn
   go_wp2
   refine bodyPost_ret (v := .tuple #[.agg #[.int .i64 0, .int .i64 0, .string ⟨#[]⟩, .slice none 0 0, .slice none 0 0, .slice none 0 0], .int .i64 5]) (by simp [results, Try.results10, go_sem, *]) rfl ?_
   exact HE.out
  case pos =>
   subst h1
   have hn1 : ((1 : Int) != 1) = false := rfl
   obtain ⟨⟨q1, y, vm, vl, vt⟩, rfl⟩ : ∃ q, fs = [q] := by
    have h2 : fs.length = 1 := by have := congrArg List.length HMAP.out; rw [List.length_map] at this; omega
    exact List.length_eq_one_iff.1 h2
   obtain rfl : L = [(q1, y)] := HMAP.out.symm
   have hrow := HROW.out
   obtain ⟨b1, m1, p1, b2, m2, p2, b3, m3, p3, e1, e2, e3⟩ := (hrow.rep _ (List.mem_singleton_self _)).forms
   simp only at e1 e2 e3
   subst e1 e2 e3
   obtain ⟨g, hg⟩ : ∃ g, a = some ⟨g, 0, none⟩ := by
    rcases hrow.row.2 with ⟨_, h0⟩ | ⟨g, cap, cur, h3, _⟩
    ·exact absurd h0 (by simp)
    ·cases h3; exact ⟨g, rfl⟩
   subst hg
   have hc := fun j u (hu : (Rd.flatF [(q1, Dt.P.mk y (.slice b1 m1 p1) (.slice b2 m2 p2) (.slice b3 m3 p3))])[j]? = some u) => hrow.row.cells (g := g) rfl j u hu
   have x1 := hc 1 _ rfl
   have x2 := hc 2 _ rfl
   have x3 := hc 3 _ rfl
   have x4 := hc 4 _ rfl
   have x5 := hc 5 _ rfl
   have x6 := hc 6 _ rfl
   rw [Addr.add_mid, Nat.zero_add] at x1 x2 x3 x4 x5 x6
   have HE : Hid (Rd.OnePost (Rd.oneR ([(q1, y)], p, 0)) w (.returned (.tuple #[.agg #[.int .i64 y.k, .int .i64 y.n, .string y.s, .slice b1 m1 p1, .slice b2 m2 p2, .slice b3 m3 p3], .int .i64 0])) (set6 w2 R (.int .i64 y.k) (.int .i64 y.n) (.string y.s) (.slice b1 m1 p1) (.slice b2 m2 p2) (.slice b3 m3 p3))) := by
    have hk := set6_keep w2 R (.int .i64 y.k) (.int .i64 y.n) (.string y.s) (.slice b1 m1 p1) (.slice b2 m2 p2) (.slice b3 m3 p3)
    refine ⟨_, _, _, rfl, ?_, HBW.out.trans (hk.to_below (fun k e => by have := HN.out.1; omega) HBW.out.size)⟩
    refine Dt.Rep.mono (fun b hb _ => ?_) y (Dt.Rep.keep hk (fun b hb _ e => ?_) y (hrow.rep _ (List.mem_singleton_self _)))
    ·have := HN.out; omega
    ·have := HN.out; omega
   clear hc hrow hn HROW HMAP
   go_wp2
   refine bodyPost_ret (v := .tuple #[.agg #[.int .i64 y.k, .int .i64 y.n, .string y.s, .slice b1 m1 p1, .slice b2 m2 p2, .slice b3 m3 p3], .int .i64 0]) (by simp [results, Try.results10, go_sem, *]) rfl ?_
   exact HE.out
end Go.Proofs.Ytcopdfihaheplaa
namespace Go.Proofs.Ytcopdfihaheplaa
namespace Cd
structure Ins where
 o : Int
 a : Int
 b : Int
deriving DecidableEq
structure Op where
 a : Nat
 needs : Int
 leaves : Int
 pa : Bool
 pb : Bool
 en : Bool
def opT (n : Int) : Option Op :=
 if n = 1 then some ⟨1, 0, 1, false, false, false⟩
 else if n = 2 then some ⟨2, 0, 1, false, false, false⟩
 else if n = 3 then some ⟨3, 0, 1, false, false, false⟩
 else if n = 4 then some ⟨4, 0, 1, false, false, false⟩
 else if n = 5 then some ⟨2, 0, 0, false, false, false⟩
 else if n = 6 then some ⟨0, 1, 1, false, false, false⟩
 else if n = 7 then some ⟨0, 2, 1, false, false, false⟩
 else if n = 8 then some ⟨4, 1, 1, false, false, false⟩
 else if n = 9 then some ⟨4, 1, 1, false, false, false⟩
 else if n = 10 then some ⟨5, 0, 0, false, false, false⟩
 else if n = 11 then some ⟨5, 1, 0, false, false, false⟩
 else if n = 12 then some ⟨6, 0, 1, false, true, false⟩
 else if n = 13 then some ⟨7, 1, 1, true, false, false⟩
 else if n = 14 then some ⟨7, 1, 0, true, false, true⟩
 else if n = 15 then some ⟨0, 1, 0, false, false, true⟩
 else if n = 16 then some ⟨0, 1, 0, false, false, false⟩
 else none
def op (n : Int) : Op := (opT n).getD ⟨0, 0, 0, false, false, false⟩
def need (x : Ins) : Int := (op x.o).needs + (if (op x.o).pa then x.a else 0) + (if (op x.o).pb then x.b else 0)
def g (ah : List Int) (j : Nat) : Int := ah.getD j (-1)
def Ext (ah ah' : List Int) : Prop := ah'.length = ah.length ∧ ∀ i, 0 ≤ g ah i → g ah' i = g ah i
theorem Ext.refl (ah : List Int) : Ext ah ah := ⟨rfl, fun _ _ => rfl⟩
theorem Ext.trans {a b c : List Int} (h : Ext a b) (h' : Ext b c) : Ext a c := ⟨h'.1.trans h.1, fun i hi => by
 have h1 := h.2 i hi
 rw [← h1]
 exact h'.2 i (by rw [h1]; exact hi)⟩
structure Fine (fin : List Int) (M : Int) (x : Ins) (j : Nat) : Prop where
 nd : need x ≤ g fin j
 mx : g fin j ≤ M
 ends : (op x.o).en = true → g fin j = need x
 next : (op x.o).en = false → g fin j - need x + (op x.o).leaves ≤ M ∧ ((op x.o).a = 5 → x.a.toNat < fin.length ∧ g fin x.a.toNat = g fin j - need x + (op x.o).leaves) ∧ (x.o ≠ 10 → j + 1 < fin.length ∧ g fin (j + 1) = g fin j - need x + (op x.o).leaves)
def start (n : Nat) : List Int := (List.replicate n (-1)).set 0 0
end Cd
end Go.Proofs.Ytcopdfihaheplaa
namespace Go.Proofs.Ytcopdfihaheplaa
open Go.RowKit
attribute [local go_sem] Oper.semAt_some
namespace Cd
end Cd
end Go.Proofs.Ytcopdfihaheplaa
namespace Go.Proofs.Ytcopdfihaheplaa
open Go.RowKit
namespace Cd
structure Ah (w : World) (base Bl Ba g c : Nat) (a : Option Addr) (n cl : Nat) (ah : List Int) : Prop where
 cl : w.cell? ⟨Bl, 0, none⟩ = some (.slice a n cl)
 ca : w.cell? ⟨Ba, 0, none⟩ = some (.slice (some ⟨g, 0, none⟩) n c)
 row : w.ownsRow base 3 1 (.slice (some ⟨g, 0, none⟩) n c) n (ah.map (Value.int .i64))
 ne : g ≠ Ba
 nl : g ≠ Bl
 len : ah.length = n
theorem Ah.at {w : World} {base Bl Ba g c : Nat} {a : Option Addr} {n cl : Nat} {ah : List Int} (h : Ah w base Bl Ba g c a n cl ah) (j : Nat) (hj : j < n) : w.cell? ⟨g, j, none⟩ = some (.int .i64 (Cd.g ah j)) ∧ w.frozen? ⟨g, j, none⟩ = false := by
 rcases h.row.2 with ⟨e, h0⟩ | ⟨g', cap, cur, e, e2, e3, e4, e5, e6, e7⟩
 ·cases e
 ·have eg : g' = g := by cases e; rfl
  subst eg
  have hv : (ah.map (Value.int .i64))[j]? = some (.int .i64 (Cd.g ah j)) := by
   rw [List.getElem?_map, List.getElem?_eq_getElem (by rw [h.len]; exact hj)]
   unfold Cd.g
   rw [List.getD_eq_getElem?_getD, List.getElem?_eq_getElem (by rw [h.len]; exact hj)]
   rfl
  have := h.row.cells (g := g') rfl j _ hv
  have e : (⟨g', 0, none⟩ : Addr).add j = ⟨g', j, none⟩ := by
   unfold Addr.add
   split
   ·rename_i h0; rw [h0]
   ·rw [Nat.zero_add]
  rw [e] at this
  refine ⟨this, ?_⟩
  unfold World.frozen?
  rw [e3]
  simp
theorem Ah.set {w : World} {base Bl Ba g c : Nat} {a : Option Addr} {n cl : Nat} {ah : List Int} (h : Ah w base Bl Ba g c a n cl ah) (j : Nat) (hj : j < n) (v : Int) : Ah (w.setCell ⟨g, j, none⟩ (.int .i64 v)) base Bl Ba g c a n cl (ah.set j v) := by
 have hn : ∀ {B : Nat}, g ≠ B → (w.setCell ⟨g, j, none⟩ (.int .i64 v)).cell? ⟨B, 0, none⟩ = w.cell? ⟨B, 0, none⟩ := fun hB => World.cell?_setCell_other _ _ _ _ (by intro e; cases e; exact hB rfl)
 refine ⟨(hn h.nl).trans h.cl, (hn h.ne).trans h.ca, ?_, h.ne, h.nl, by rw [List.length_set]; exact h.len⟩
 have hl : j < ah.length := by rw [h.len]; exact hj
 have hs : ah.map (Value.int .i64) = (ah.take j).map (Value.int .i64) ++ (.int .i64 ah[j]) :: (ah.drop (j + 1)).map (Value.int .i64) := by
  rw [← List.map_cons, ← List.map_append, ← List.drop_eq_getElem_cons hl, List.take_append_drop]
 have hr := h.row
 rw [hs] at hr
 have := Pt.own_set (v := .int .i64 v) hr
 rw [List.length_map, List.length_take, Nat.min_eq_left (by omega)] at this
 rw [List.set_eq_take_append_cons_drop, if_pos hl, List.map_append, List.map_cons]
 exact this
theorem Ah.keep {S : Nat → Prop} {w w' : World} {base Bl Ba g c : Nat} {a : Option Addr} {n cl : Nat} {ah : List Int} (h : Ah w base Bl Ba g c a n cl ah) (hk : Keep S w w') (h1 : ¬ S Bl) (h2 : ¬ S Ba) (h3 : ¬ S g) : Ah w' base Bl Ba g c a n cl ah := by
 refine ⟨(hk.cell 0 (block_lt_of_cell h.cl) h1).trans h.cl, (hk.cell 0 (block_lt_of_cell h.ca) h2).trans h.ca, ?_, h.ne, h.nl, h.len⟩
 obtain ⟨h0, h9⟩ := h.row
 refine ⟨h0, ?_⟩
 rcases h9 with h9 | ⟨g', cap, cur, e, e2, e3, e4⟩
 ·exact .inl h9
 ·have eg : g' = g := by cases e; rfl
  subst eg
  exact .inr ⟨g', cap, cur, e, e2, (hk.block g' (Array.getElem?_eq_some_iff.1 e3).1 h3).trans e3, e4⟩
theorem Ah.below {w w' : World} {base Bl Ba g c : Nat} {a : Option Addr} {n cl : Nat} {ah : List Int} (h : Ah w base Bl Ba g c a n cl ah) (hb : Below w.heap.size w w') : Ah w' base Bl Ba g c a n cl ah :=
 h.keep (S := fun _ => False) ((Keep.refl _ w).below hb) id id id
end Cd
end Go.Proofs.Ytcopdfihaheplaa
namespace Go.Proofs.Ytcopdfihaheplaa
open Go.RowKit
namespace Cd
open Dt
structure Code where
 params : Int
 rest : Int
 caps : Int
 max : Int
 ins : List Ins
structure Prog where
 codes : List Code
 consts : List D
 names : List ByteArray
def InsRow (F : Nat → Prop) (w : World) (v : Value) (l : List Ins) : Prop :=
 ∃ (a : Option Addr) (c : Nat), v = .slice a l.length c ∧ l.length ≤ c ∧ (l ≠ [] → ∃ b o, a = some ⟨b, o, none⟩ ∧ F b ∧ b < w.heap.size ∧ ∀ j, (h : j < l.length) → w.cell? ⟨b, o + j * 3, none⟩ = some (.int .i64 l[j].o) ∧ w.cell? ⟨b, o + j * 3 + 1, none⟩ = some (.int .i64 l[j].a) ∧ w.cell? ⟨b, o + j * 3 + 2, none⟩ = some (.int .i64 l[j].b))
def CodeAt (F : Nat → Prop) (w : World) (b o : Nat) (c : Code) : Prop :=
 w.cell? ⟨b, o, none⟩ = some (.int .i64 c.params) ∧ w.cell? ⟨b, o + 1, none⟩ = some (.int .i64 c.rest) ∧ w.cell? ⟨b, o + 2, none⟩ = some (.int .i64 c.caps) ∧ w.cell? ⟨b, o + 3, none⟩ = some (.int .i64 c.max) ∧ ∃ v, w.cell? ⟨b, o + 4, none⟩ = some v ∧ InsRow F w v c.ins
def CodeRow (F : Nat → Prop) (w : World) (v : Value) (l : List Code) : Prop :=
 ∃ (a : Option Addr) (c : Nat), v = .slice a l.length c ∧ l.length ≤ c ∧ (l ≠ [] → ∃ b o, a = some ⟨b, o, none⟩ ∧ F b ∧ b < w.heap.size ∧ ∀ j, (h : j < l.length) → CodeAt F w b (o + j * 5) l[j])
def NameRow (F : Nat → Prop) (w : World) (v : Value) (l : List ByteArray) : Prop :=
 ∃ (a : Option Addr) (c : Nat), v = .slice a l.length c ∧ l.length ≤ c ∧ (l ≠ [] → ∃ b o, a = some ⟨b, o, none⟩ ∧ F b ∧ b < w.heap.size ∧ ∀ j, (h : j < l.length) → w.cell? ⟨b, o + j, none⟩ = some (.string l[j]))
structure PRep (F : Nat → Prop) (w : World) (p : Prog) (vc vk vn : Value) : Prop where
 codes : CodeRow F w vc p.codes
 consts : Row F w vk p.consts
 names : NameRow F w vn p.names
theorem InsRow.keep {F S : Nat → Prop} {w w' : World} {v : Value} {l : List Ins} (h : InsRow F w v l) (hk : Keep S w w') (hS : ∀ b, F b → b < w.heap.size → ¬ S b) : InsRow F w' v l := by
 obtain ⟨a, c, h1, h2, h3⟩ := h
 refine ⟨a, c, h1, h2, fun hn => ?_⟩
 obtain ⟨b, o, h4, h5, h6, h7⟩ := h3 hn
 exact ⟨b, o, h4, h5, Nat.lt_of_lt_of_le h6 hk.size, fun j hj => ⟨(hk.cell _ h6 (hS b h5 h6)).trans (h7 j hj).1, (hk.cell _ h6 (hS b h5 h6)).trans (h7 j hj).2.1, (hk.cell _ h6 (hS b h5 h6)).trans (h7 j hj).2.2⟩⟩
theorem CodeAt.keep {F S : Nat → Prop} {w w' : World} {b o : Nat} {c : Code} (h : CodeAt F w b o c) (hk : Keep S w w') (hS : ∀ b, F b → b < w.heap.size → ¬ S b) (hb : b < w.heap.size) (hF : F b) : CodeAt F w' b o c := by
 obtain ⟨h0, h1, h2, h3, v, h4, h5⟩ := h
 have hn := hS b hF hb
 exact ⟨(hk.cell _ hb hn).trans h0, (hk.cell _ hb hn).trans h1, (hk.cell _ hb hn).trans h2, (hk.cell _ hb hn).trans h3, v, (hk.cell _ hb hn).trans h4, h5.keep hk hS⟩
theorem CodeRow.keep {F S : Nat → Prop} {w w' : World} {v : Value} {l : List Code} (h : CodeRow F w v l) (hk : Keep S w w') (hS : ∀ b, F b → b < w.heap.size → ¬ S b) : CodeRow F w' v l := by
 obtain ⟨a, c, h1, h2, h3⟩ := h
 refine ⟨a, c, h1, h2, fun hn => ?_⟩
 obtain ⟨b, o, h4, h5, h6, h7⟩ := h3 hn
 exact ⟨b, o, h4, h5, Nat.lt_of_lt_of_le h6 hk.size, fun j hj => (h7 j hj).keep hk hS h6 h5⟩
theorem NameRow.keep {F S : Nat → Prop} {w w' : World} {v : Value} {l : List ByteArray} (h : NameRow F w v l) (hk : Keep S w w') (hS : ∀ b, F b → b < w.heap.size → ¬ S b) : NameRow F w' v l := by
 obtain ⟨a, c, h1, h2, h3⟩ := h
 refine ⟨a, c, h1, h2, fun hn => ?_⟩
 obtain ⟨b, o, h4, h5, h6, h7⟩ := h3 hn
 exact ⟨b, o, h4, h5, Nat.lt_of_lt_of_le h6 hk.size, fun j hj => (hk.cell _ h6 (hS b h5 h6)).trans (h7 j hj)⟩
theorem PRep.keep {F S : Nat → Prop} {w w' : World} {p : Prog} {vc vk vn : Value} (h : PRep F w p vc vk vn) (hk : Keep S w w') (hS : ∀ b, F b → b < w.heap.size → ¬ S b) : PRep F w' p vc vk vn :=
 ⟨h.codes.keep hk hS, h.consts.keep hk hS, h.names.keep hk hS⟩
theorem PRep.below {F : Nat → Prop} {w w' : World} {p : Prog} {vc vk vn : Value} (h : PRep F w p vc vk vn) (hb : Below w.heap.size w w') : PRep F w' p vc vk vn :=
 h.keep (S := fun _ => False) ((Keep.refl _ w).below hb) (fun _ _ _ h => h)
theorem CodeRow.below {F : Nat → Prop} {w w' : World} {v : Value} {l : List Code} (h : CodeRow F w v l) (hb : Below w.heap.size w w') : CodeRow F w' v l :=
 h.keep (S := fun _ => False) ((Keep.refl _ w).below hb) (fun _ _ _ h => h)
theorem InsRow.below {F : Nat → Prop} {w w' : World} {v : Value} {l : List Ins} (h : InsRow F w v l) (hb : Below w.heap.size w w') : InsRow F w' v l :=
 h.keep (S := fun _ => False) ((Keep.refl _ w).below hb) (fun _ _ _ h => h)
theorem NameRow.below {F : Nat → Prop} {w w' : World} {v : Value} {l : List ByteArray} (h : NameRow F w v l) (hb : Below w.heap.size w w') : NameRow F w' v l :=
 h.keep (S := fun _ => False) ((Keep.refl _ w).below hb) (fun _ _ _ h => h)
theorem PRep.forms {F : Nat → Prop} {w : World} {p : Prog} {vc vk vn : Value} (h : PRep F w p vc vk vn) : ∃ a1 c1 a2 c2 a3 c3, vc = .slice a1 p.codes.length c1 ∧ vk = .slice a2 p.consts.length c2 ∧ vn = .slice a3 p.names.length c3 := by
 obtain ⟨⟨a1, c1, h1, _⟩, ⟨a2, c2, h2, _⟩, ⟨a3, c3, h3, _⟩⟩ := h
 exact ⟨a1, c1, a2, c2, a3, c3, h1, h2, h3⟩
end Cd
end Go.Proofs.Ytcopdfihaheplaa
namespace Go.Proofs.Ytcopdfihaheplaa
open Go.Joins Go.ChangeShapes Go.WideShapes Go.RowKit Go.Deep
namespace Cd
open Dt
section
variable {H : Type} {enc : TypeId × Value → H} {P : Program} {w : World} {base : Nat} {spare : Nat → Bool} {held : Bool}
end
end Cd
end Go.Proofs.Ytcopdfihaheplaa
namespace Go.Proofs.Ytcopdfihaheplaa
open Go.RowKit
attribute [local go_sem] Oper.semAt_some
namespace Cd
open Dt
end Cd
end Go.Proofs.Ytcopdfihaheplaa
namespace Go.Proofs.Ytcopdfihaheplaa
namespace Cd
end Cd
end Go.Proofs.Ytcopdfihaheplaa
namespace Go.Proofs.Ytcopdfihaheplaa
open Go.RowKit
namespace Cd
open Dt
end Cd
end Go.Proofs.Ytcopdfihaheplaa
namespace Go.Proofs.Ytcopdfihaheplaa
open Go.RowKit
attribute [local go_sem] Oper.semAt_some
namespace Cd
structure PutI (w0 : World) (v0 : Value) (base : Nat) (w : World) (v : Value) (l : List UInt8) : Prop where
 row : w.ownsRow base 5 1 v l.length (Lib.byteCells l)
 kp : Keep (fun k => v0.ownBlock = some k) w0 w
 ow : v.ownBlock = v0.ownBlock ∨ ∃ k, v.ownBlock = some k ∧ w0.heap.size ≤ k
theorem PutI.below {w0 w w' : World} {v0 v : Value} {base : Nat} {l : List UInt8} (h : PutI w0 v0 base w v l) (hb : Below w.heap.size w w') : PutI w0 v0 base w' v l :=
 ⟨Keep.own (S := fun _ => False) h.row ((Keep.refl _ w).below hb) (fun _ h => h.elim), h.kp.below hb, h.ow⟩
end Cd
set_option maxRecDepth 100000 in
theorem Cd.infoB : (Try.prog.info? 5).map (fun i => (i.zero, i.size, i.bytes)) = some (some (.int .u8 0), 1, 1) := by kernel_rfl
end Go.Proofs.Ytcopdfihaheplaa
namespace Go.Proofs.Ytcopdfihaheplaa
open Go.RowKit Go.Lib
namespace Ap
section
variable {P : Program} {w : World}
theorem strRun (base : Nat) (t u ty e : TypeId) (i : TypeInfo) (ht : P.underlying t = some (.slice e)) (hu : P.underlying u = some .string) (hi : P.info? e = some i) (hz : i.zero = some (.int .u8 0))
  (hsize : i.size = 1) (hby : i.bytes = 1)
  (v : Value) (n : Nat) (xs : List Value) (hown : w.ownsRow base e 1 v n xs) (s : ByteArray)
  (h63 : n + s.size ≤ maxLen) (hbytes : n + s.size ≤ 140737488355328) (hbase : base ≤ w.heap.size) :
  ∃ v' w', (Builtin.append_ #[t, u] ty #[v, .string s]).run P w = .ok v' w' ∧ w'.ownsRow base e 1 v' (n + s.size) (xs ++ strCells s) ∧ w.grownBy w' v.ownBlock ∧ (v'.ownBlock = v.ownBlock ∨ v'.ownBlock = some w.heap.size) := by
 obtain ⟨v', w', hr, h2, h3, h4⟩ := run_append_own_string (P := P) w base t u ty e i ht hu hi hz hsize hby v n xs hown s h63 hbytes hbase
 refine ⟨v', w', hr, h2, h3, ?_⟩
 have hsmall : n + s.size ≤ 9223372036854775807 := by simp only [maxLen] at h63; omega
 have hxl : xs.length = n := by simpa using hown.1
 rcases hown.2 with ⟨rfl, rfl⟩ | ⟨g, cap, cur, rfl, hbg, hg, hnc, hcm, hcs, htake⟩
 ·by_cases hm : s.size = 0
  ·rw [h4.2 ⟨rfl, hm⟩]; exact .inl rfl
  ·have hr2 := run_append_nil_string (P := P) w t u ty e i (.int .u8 0) ht hu hi hz s (by omega) (by omega) (by rw [hby]; omega)
   rw [hr] at hr2
   cases hr2
   exact .inr rfl
 ·by_cases hroom : n + s.size ≤ cap
  ·have hcs' : cur.size = cap := by simpa using hcs
   have hr2 := run_append_room_string (P := P) w t u ty e i ht hu hi hsize g n cap cur hg s hroom (by omega)
   rw [hr] at hr2
   cases hr2
   exact .inl rfl
  ·have holds : ∀ j u, xs[j]? = some u → w.cell? ((⟨g, 0, none⟩ : Addr).add j) = some u := hown.cells (g := g) rfl
   have hr2 := run_append_grow_string (P := P) w t u ty e i (.int .u8 0) ht hu hi hz ⟨g, 0, none⟩ n cap xs (by rw [hsize]; simpa using hxl) holds s (by omega) (by omega) (by rw [hby]; exact growslice_fits (by omega) (by omega))
   rw [hr] at hr2
   cases hr2
   exact .inr rfl
theorem strWp {o : Oper} {a : Act} {K : Act → World → Prop} {Q : Exit → Act → World → Prop} (sl x : Operand) (t u : TypeId)
  (ho : o.op = .call { callee := .builtin .append, args := #[sl, x], argTypes := #[t, u] })
  (base : Nat) (e : TypeId) (i : TypeInfo) (ht : P.underlying t = some (.slice e)) (hu : P.underlying u = some .string) (hi : P.info? e = some i) (hz : i.zero = some (.int .u8 0))
  (hsize : i.size = 1) (hby : i.bytes = 1)
  (v : Value) (n : Nat) (xs : List Value) (hs : a.eval sl = v) (hown : w.ownsRow base e 1 v n xs) (s : ByteArray) (hx : a.eval x = .string s)
  (h63 : n + s.size ≤ maxLen) (hbytes : n + s.size ≤ 140737488355328) (hbase : base ≤ w.heap.size)
  (h : ∀ v' w', w'.ownsRow base e 1 v' (n + s.size) (xs ++ strCells s) → w.grownBy w' v.ownBlock → (v'.ownBlock = v.ownBlock ∨ v'.ownBlock = some w.heap.size) → K (a.put o.dst v') w') : o.wp P a w K Q := by
 obtain ⟨v', w', hr, h2, h3, h4⟩ := strRun (P := P) base t u o.type e i ht hu hi hz hsize hby v n xs hown s h63 hbytes hbase
 unfold Oper.wp execOp
 simp only [ho, resolve, invoke, builtin, Sem.run_bind, Sem.run_pure, Result.andThen_ok, List.map_toArray, List.map_cons, List.map_nil, hs, hx, hr]
 exact h v' w' h2 h3 h4
theorem strList {ops : Array Oper} {rest : List Oper} {o : Oper} {a : Act} {Q : Exit → Act → World → Prop} (hgd : o.guard = none) (sl x : Operand) (t u : TypeId)
  (ho : o.op = .call { callee := .builtin .append, args := #[sl, x], argTypes := #[t, u] })
  (base : Nat) (e : TypeId) (i : TypeInfo) (ht : P.underlying t = some (.slice e)) (hu : P.underlying u = some .string) (hi : P.info? e = some i) (hz : i.zero = some (.int .u8 0))
  (hsize : i.size = 1) (hby : i.bytes = 1)
  (v : Value) (n : Nat) (xs : List Value) (hs : a.eval sl = v) (hown : w.ownsRow base e 1 v n xs) (s : ByteArray) (hx : a.eval x = .string s)
  (h63 : n + s.size ≤ maxLen) (hbytes : n + s.size ≤ 140737488355328) (hbase : base ≤ w.heap.size)
  (h : ∀ v' w', w'.ownsRow base e 1 v' (n + s.size) (xs ++ strCells s) → w.grownBy w' v.ownBlock → (v'.ownBlock = v.ownBlock ∨ v'.ownBlock = some w.heap.size) → wpList P ops Q rest (a.put o.dst v') w') : wpList P ops Q (o :: rest) a w :=
 wpList_plain hgd fun _ hK => strWp sl x t u ho base e i ht hu hi hz hsize hby v n xs hs hown s hx h63 hbytes hbase fun v' w' h2 h3 h4 => hK _ _ (h v' w' h2 h3 h4)
end
end Ap
end Go.Proofs.Ytcopdfihaheplaa
namespace Go.Proofs.Ytcopdfihaheplaa
open Go.RowKit
attribute [local go_sem] Oper.semAt_some
namespace Rd
structure Pw (base P : Nat) (w0 : World) (v0 : Value) (w : World) (acc : List UInt8) (v : Value) : Prop where
 hp : Hp w P #[v] 55
 row : w.ownsRow base 5 1 v acc.length (Lib.byteCells acc)
 kp : Keep (fun k => k = P ∨ v0.ownBlock = some k) w0 w
 ow : v.ownBlock = v0.ownBlock ∨ ∃ k, v.ownBlock = some k ∧ w0.heap.size ≤ k
theorem Pw.start {base P : Nat} {w : World} {acc : List UInt8} {v : Value} (hp : Hp w P #[v] 55) (hr : w.ownsRow base 5 1 v acc.length (Lib.byteCells acc)) : Pw base P w v w acc v := ⟨hp, hr, Keep.refl _ _, .inl rfl⟩
theorem Pw.again {base P : Nat} {w0 w : World} {acc : List UInt8} {v0 v : Value} (h : Pw base P w0 v0 w acc v) : Pw base P w v w acc v := ⟨h.hp, h.row, Keep.refl _ _, .inl rfl⟩
theorem Pw.below {base P : Nat} {w0 w w' : World} {acc : List UInt8} {v0 v : Value} (h : Pw base P w0 v0 w acc v) (hb : Below w.heap.size w w') : Pw base P w0 v0 w' acc v :=
 ⟨h.hp.below hb, Dt.own_keep h.row (S := fun _ => False) (keep_of_below hb) (fun _ _ => id), h.kp.below hb, h.ow⟩
theorem Pw.trans {base P : Nat} {w0 w w' : World} {acc acc' : List UInt8} {v0 v v' : Value} (h : Pw base P w0 v0 w acc v) (h2 : Pw base P w v w' acc' v') : Pw base P w0 v0 w' acc' v' := by
 refine ⟨h2.hp, h2.row, ?_, ?_⟩
 ·refine (h.kp.le (T := fun k => k = P ∨ v0.ownBlock = some k ∨ v.ownBlock = some k) (fun k e => e.elim .inl (fun e => .inr (.inl e)))).trans (h2.kp.le (fun k e => e.elim .inl (fun e => .inr (.inr e)))) |>.mono (fun k hk e => ?_)
  rcases e with e | e | e
  ·exact .inl e
  ·exact .inr e
  ·rcases h.ow with o | ⟨j, o, hj⟩
   ·exact .inr (o ▸ e)
   ·rw [o] at e; cases e; omega
 ·rcases h2.ow with o | ⟨j, o, hj⟩
  ·rcases h.ow with o2 | ⟨j, o2, hj⟩
   ·exact .inl (o.trans o2)
   ·exact .inr ⟨j, o.trans o2, hj⟩
  ·exact .inr ⟨j, o, Nat.le_trans h.kp.size hj⟩
theorem Pw.push {base P : Nat} {w w2 : World} {acc x : List UInt8} {v v' : Value} (hp : Hp w P #[v] 55) (hr : w.ownsRow base 5 1 v acc.length (Lib.byteCells acc)) (hPb : P < base) (_hb : base ≤ w.heap.size)
  (hown : w2.ownsRow base 5 1 v' (acc.length + x.length) (Lib.byteCells acc ++ Lib.byteCells x)) (hg : w.grownBy w2 v.ownBlock) (hat : v'.ownBlock = v.ownBlock ∨ v'.ownBlock = some w.heap.size) :
  Pw base P w v (w2.setCell ⟨P, 0, none⟩ v') (acc ++ x) v' ∧ Hp w2 P #[v] 55 := by
 have hk1 : Keep (fun k => v.ownBlock = some k) w w2 := Dt.Cd_keep_grown hg
 have hp2 : Hp w2 P #[v] 55 := hp.keep hk1 (fun e => by have := (hr.lt P e).1; omega)
 have hk2 := set_keep w2 P 0 v'
 refine ⟨⟨hp2.set 0 v', ?_, (hk1.le (fun k e => .inr e)).trans (hk2.le (fun k e => .inl e)), hat.elim .inl (fun e => .inr ⟨_, e, Nat.le_refl _⟩)⟩, hp2⟩
 have h3 := Dt.own_keep hown hk2 (fun k e h => by have := (hown.lt k e).1; omega)
 rw [List.length_append, Lib.byteCells_append]
 exact h3
def PutP (base P : Nat) (acc : List UInt8) (v0 : Value) (w : World) (e : Ending) (w' : World) : Prop := e = .returned (.tuple #[]) ∧ ∃ v, Pw base P w v0 w' acc v
end Rd
set_option maxRecDepth 100000 in
set_option maxHeartbeats 8000000 in
theorem pword_any (k n c : Int) (s : ByteArray) (x : List UInt8) (HT : Hid (∀ W, Calls Try.prog 52 #[.agg #[.int .i64 k, .int .i64 0, .int .i64 0, .int .i64 n, .string s]] W fun e w' => e = .returned (.tuple #[.string ⟨x.toArray⟩, .int .i64 c]) ∧ Below W.heap.size W w'))
  (base P : Nat) (acc : List UInt8) (w : World) (v0 : Value) (hP : Rd.Pw base P w v0 w acc v0) (hPb : P < base) (hb : base ≤ w.heap.size) (hl : acc.length + x.length ≤ 140737488355328) :
  Calls Try.prog 33 #[.pointer (some ⟨P, 0, none⟩), .agg #[.int .i64 k, .int .i64 0, .int .i64 0, .int .i64 n, .string s]] w (Rd.PutP base P (acc ++ x) v0 w) := by
 obtain ⟨w1, hw1⟩ : ∃ w1, w.alloc (.cells #[.int .i64 k, .int .i64 0, .int .i64 0, .int .i64 n, .string s] 47) = w1 := ⟨_, rfl⟩
 obtain ⟨hb1, hs1⟩ := new_below hw1
 have hT1 := Hp.new hw1
 have q0 := hT1.cell 0 rfl
 have q1 := hT1.cell 1 rfl
 have q2 := hT1.cell 2 rfl
 have q3 := hT1.cell 3 rfl
 have q4 := hT1.cell 4 rfl
 have hcall := HT.out w1
 obtain ⟨i0, hi, hz0, hz1, hz2⟩ := info_parts Cd.infoB
 have HI0 := Lib.hid hi
 have HZ0 := Lib.hid hz0
 have HZ1 := Lib.hid hz1
 have HZ2 := Lib.hid hz2
 have HPH := Lib.hid hP
 have HB1 := Lib.hid hb1
 clear hT1 hi hz0 hz1 hz2 hP hb1 hs1 HT
 go_enter Try.func33, Try.ntmps33
 go_wp2_with fail
 refine hcall.mono ?_
 rintro e w2 ⟨rfl, hb2⟩
 have hpw := (HPH.out.below HB1.out).below hb2
 have hp2 := hpw.hp
 have hrow2 := hpw.row
 have HPW := Lib.hid hpw
 have hbw := HB1.out.trans (hb2.mono HB1.out.size)
 have hbs2 : base ≤ w2.heap.size := by have := hbw.size; omega
 have p0 := hp2.cell 0 rfl
 have HP2 := Lib.hid hp2
 have HROW := Lib.hid hrow2
 have HBW := Lib.hid hbw
 obtain ⟨a0, c0, rfl⟩ := Dt.row_form hrow2
 have hxl : (⟨x.toArray⟩ : ByteArray).size = x.length := by show x.toArray.size = _; simp
 clear hcall hw1 q0 q1 q2 q3 q4 hb2 hp2 hbw hpw
 go_wp2_with (at_builtin; refine Ap.strList rfl _ _ 53 9 rfl base 5 i0 Try.underlying53 Try.underlying9 HI0.out HZ0.out HZ1.out HZ2.out _ _ _ rfl hrow2 ⟨x.toArray⟩ rfl (by rw [hxl]; unfold maxLen; omega) (by rw [hxl]; omega) hbs2 ?_)
 intro v' w3 hown' hgrow hat
 obtain ⟨a3, c3, rfl⟩ := Dt.row_form hown'
 obtain ⟨g1, g3⟩ := Rd.Pw.push (x := x) HP2.out HROW.out hPb hbs2 (by
  have e : Lib.strCells ⟨x.toArray⟩ = Lib.byteCells x := by rw [Lib.strCells_eq]
  rw [e] at hown'
  exact hown') hgrow hat
 have HE : Hid (Rd.PutP base P (acc ++ x) (.slice a0 acc.length c0) w (.returned (.tuple #[])) (w3.setCell ⟨P, 0, none⟩ (.slice a3 (acc.length + x.length) c3))) := ⟨rfl, _, HPW.out.trans g1⟩
 have p0' := g3.cell 0 rfl
 have k0 := g3.frz 0
 clear hown' hgrow hat g1 g3 p0 hxl hrow2 hbs2 hPb
 go_wp2
 refine bodyPost_ret (v := .tuple #[]) (by simp [results, Try.results33, go_sem, *]) rfl ?_
 exact HE.out
end Go.Proofs.Ytcopdfihaheplaa
namespace Go.Proofs.Ytcopdfihaheplaa
open Go.RowKit
namespace Tx
structure W where
 k : Int
 a : Int
 z : Int
 n : Int
 s : ByteArray
def W.ok (t : W) : Prop := t.s.size ≤ 1000000 ∧ -9223372036854775808 ≤ t.n ∧ t.n ≤ 9223372036854775807
def W.txt (t : W) : Option (List UInt8) := text t.k t.n t.s.data.toList
def Row (w : World) (v : Value) (l : List W) : Prop :=
 ∃ (a : Option Addr) (c : Nat), v = .slice a l.length c ∧ l.length ≤ c ∧ (l ≠ [] → ∃ b o, a = some ⟨b, o, none⟩ ∧ b < w.heap.size ∧ ∀ j, (h : j < l.length) →
  w.cell? ⟨b, o + j * 5, none⟩ = some (.int .i64 l[j].k) ∧ w.cell? ⟨b, o + j * 5 + 1, none⟩ = some (.int .i64 l[j].a) ∧ w.cell? ⟨b, o + j * 5 + 2, none⟩ = some (.int .i64 l[j].z) ∧ w.cell? ⟨b, o + j * 5 + 3, none⟩ = some (.int .i64 l[j].n) ∧ w.cell? ⟨b, o + j * 5 + 4, none⟩ = some (.string l[j].s))
theorem Row.below {w w' : World} {v : Value} {l : List W} (h : Row w v l) (hb : Below w.heap.size w w') : Row w' v l := by
 obtain ⟨a, c, h1, h2, h3⟩ := h
 refine ⟨a, c, h1, h2, fun hn => ?_⟩
 obtain ⟨b, o, h4, h5, h6⟩ := h3 hn
 refine ⟨b, o, h4, Nat.lt_of_lt_of_le h5 hb.size, fun j hj => ?_⟩
 obtain ⟨c0, c1, c2, c3, c4⟩ := h6 j hj
 exact ⟨(hb.cell (p := ⟨b, _, none⟩) h5).trans c0, (hb.cell (p := ⟨b, _, none⟩) h5).trans c1, (hb.cell (p := ⟨b, _, none⟩) h5).trans c2, (hb.cell (p := ⟨b, _, none⟩) h5).trans c3, (hb.cell (p := ⟨b, _, none⟩) h5).trans c4⟩
def texts : List W → Option (List (List UInt8))
 | [] => some []
 | t :: r => match t.txt with
  | none => none
  | some x => (texts r).map (x :: ·)
def Way (l : List W) (k : Nat) (xs : List (List UInt8)) : Prop := texts l = (texts (l.drop k)).map (xs ++ ·)
theorem Way.start (l : List W) : Way l 0 [] := by
 unfold Way
 cases h : texts l with
 | none => simp [h]
 | some xs => simp [h]
theorem Way.fail {l : List W} {k : Nat} {xs : List (List UInt8)} (h : Way l k xs) (hk : k < l.length) (hx : (l[k]).txt = none) : texts l = none := by
 unfold Way at h
 rw [h, List.drop_eq_getElem_cons hk, texts, hx]
 rfl
theorem digF_len : ∀ (f n : Nat), (Fx.digF f n).length ≤ f + 1
 | 0, n => by unfold Fx.digF; simp
 | f + 1, n => by
  unfold Fx.digF
  split
  ·simp
  ·have := digF_len f (n / 10)
   simp only [List.length_append, List.length_singleton]
   omega
theorem escs_len : ∀ (l : List UInt8), (escsL l).length ≤ 4 * l.length
 | [] => by simp [escsL]
 | c :: r => by
  have h1 := escs_len r
  have h2 : (escL c).length ≤ 4 := by
   unfold escL
   split
   ·simp
   split
   ·simp
   split
   ·simp
   split
   ·simp
   split
   ·simp
   ·simp [pairL]
  have h3 : escsL (c :: r) = escL c ++ escsL r := by simp [escsL]
  rw [h3, List.length_append, List.length_cons]
  omega
theorem let_len' (n : Nat) : (letL n).length ≤ 7 := by
 unfold letL
 split
 ·simp
 split
 ·simp
 split
 ·simp
 split
 ·simp
 split
 ·simp
 ·simp [pairL]
theorem sym_len (l : List UInt8) (h : Lx.symbol l = true) : l.length ≤ 32 := by
 unfold Lx.symbol at h
 rcases Bool.or_eq_true_iff.1 h with h | h
 ·rcases Bool.or_eq_true_iff.1 h with h | h
  ·rcases Bool.or_eq_true_iff.1 h with h | h
   ·rw [beq_iff_eq.1 h]; simp
   ·rw [beq_iff_eq.1 h]; simp
  ·rw [beq_iff_eq.1 h]; simp
 ·simp only [Bool.and_eq_true, decide_eq_true_eq] at h
  omega
theorem text_len (k n : Int) (l x : List UInt8) (h : text k n l = some x) : x.length ≤ 1100 := by
 unfold text at h
 split at h
 ·split at h
  ·rename_i hk hok
   injection h with h
   subst h
   unfold datL
   split
   ·unfold Fx.textL
    have := digF_len 20 n.natAbs
    simp only [List.length_append]
    split <;> (simp; omega)
   split
   ·split <;> simp
   split
   ·have := let_len' n.toNat
    simp; omega
   split
   ·rename_i h1 h2 h3 h4
    rw [h4] at hok
    unfold ok at hok
    rw [if_neg (by decide), if_neg (by decide), if_neg (by decide), if_pos rfl, Bool.and_eq_true, Bool.and_eq_true, decide_eq_true_iff, decide_eq_true_iff] at hok
    have := escs_len l
    unfold quotL
    simp; omega
   ·rename_i h1 h2 h3 h4
    unfold ok at hok
    rw [if_neg h1, if_neg h2, if_neg h3, if_neg h4] at hok
    split at hok
    ·rw [Bool.and_eq_true] at hok
     have := sym_len l hok.2
     omega
    ·exact absurd hok (by simp)
  ·exact absurd h (by simp)
 ·split at h
  ·split at h
   ·injection h with h
    subst h
    unfold signL
    split
    ·simp
    split
    ·simp
    split
    ·simp
    split
    ·simp
    split
    ·simp
    split
    ·simp
    split
    ·simp
    ·simp
   ·exact absurd h (by simp)
  ·exact absurd h (by simp)
end Tx
end Go.Proofs.Ytcopdfihaheplaa
namespace Go.Proofs.Ytcopdfihaheplaa
namespace Rd
open Dt
def shortL (k : Int) (l : List D) : Int := match l with
 | [x, _] => if k = 6 ∧ x.k = 5 then (if x.s = sgn 4 then 4 else if x.s = sgn 5 then 5 else if x.s = sgn 6 then 6 else if x.s = sgn 7 then 7 else 0) else 0
 | _ => 0
def wt (k n : Int) (s : List UInt8) : List UInt8 := if k ≤ 3 then (Tx.text (k + 8) n []).getD [] else (Tx.text (k + 8) 0 s).getD []
mutual
def txt : D → List UInt8
 | .mk k n s _ l t =>
  if shortL k l ≠ 0 then Tx.signL (shortL k l) ++ txt2 l
  else if 1 ≤ k ∧ k ≤ 5 then wt k n s.data.toList
  else Tx.signL (if k = 8 then 3 else 1) ++ txts l ++ txtt t ++ [41]
def txt2 : List D → List UInt8
 | [] => []
 | _ :: r => txt1 r
def txt1 : List D → List UInt8
 | [] => []
 | d :: _ => txt d
def txts : List D → List UInt8
 | [] => []
 | d :: r => txt d ++ txtr r
def txtr : List D → List UInt8
 | [] => []
 | d :: r => 32 :: (txt d ++ txtr r)
def txtt : List D → List UInt8
 | [] => []
 | d :: _ => 32 :: 46 :: 32 :: txt d
end
theorem txtr_take : ∀ (l : List D) (j : Nat) (h : j < l.length), txtr (l.take (j + 1)) = txtr (l.take j) ++ 32 :: txt l[j]
 | [], j, h => absurd h (by simp)
 | d :: r, 0, h => by simp [txtr]
 | d :: r, j + 1, h => by
  have := txtr_take r j (by simpa using h)
  rw [List.take_succ_cons, List.take_succ_cons, txtr, txtr, this]
  simp
theorem txts_take (l : List D) (j : Nat) (h : j < l.length) : txts (l.take (j + 1)) = txts (l.take j) ++ (if j = 0 then [] else [32]) ++ txt l[j] := by
 cases l with
 | nil => exact absurd h (by simp)
 | cons d r =>
  cases j with
  | zero => simp [txts, txtr]
  | succ j =>
   rw [List.take_succ_cons, List.take_succ_cons, txts, txts, txtr_take r j (by simpa using h)]
   simp
theorem txts_le (l : List D) (j : Nat) : (txts (l.take j)).length ≤ (txts l).length := by
 have hr : ∀ (r : List D) (j : Nat), (txtr (r.take j)).length ≤ (txtr r).length := by
  intro r
  induction r with
  | nil => intro j; simp
  | cons d r ih =>
   intro j
   cases j with
   | zero => simp [txtr]
   | succ j =>
    rw [List.take_succ_cons, txtr, txtr]
    have := ih j
    simp only [List.length_cons, List.length_append]
    omega
 cases l with
 | nil => simp
 | cons d r =>
  cases j with
  | zero => simp [txts]
  | succ j =>
   rw [List.take_succ_cons, txts, txts]
   have := hr r j
   simp only [List.length_append]
   omega
theorem short_cases (k : Int) (l : List D) : shortL k l = 0 ∨ (k = 6 ∧ 4 ≤ shortL k l ∧ shortL k l ≤ 7 ∧ ∃ x y, l = [x, y] ∧ x.k = 5 ∧ x.s = sgn (shortL k l)) := by
 unfold shortL
 split
 ·rename_i x y
  split
  ·rename_i h
   split
   ·rename_i e; exact .inr ⟨h.1, by decide, by decide, x, y, rfl, h.2, e⟩
   split
   ·rename_i e; exact .inr ⟨h.1, by decide, by decide, x, y, rfl, h.2, e⟩
   split
   ·rename_i e; exact .inr ⟨h.1, by decide, by decide, x, y, rfl, h.2, e⟩
   split
   ·rename_i e; exact .inr ⟨h.1, by decide, by decide, x, y, rfl, h.2, e⟩
   ·exact .inl rfl
  ·exact .inl rfl
 ·exact .inl rfl
theorem wt_len (k n : Int) (s : List UInt8) : (wt k n s).length ≤ 1100 := by
 have h : ∀ (o : Option (List UInt8)), (∀ x, o = some x → x.length ≤ 1100) → (o.getD []).length ≤ 1100 := fun o ho => by
  cases o with
  | none => simp
  | some x => exact ho x rfl
 unfold wt
 split
 ·exact h _ (fun x e => Tx.text_len _ _ _ _ e)
 ·exact h _ (fun x e => Tx.text_len _ _ _ _ e)
theorem sign_len (k : Int) : (Tx.signL k).length ≤ 2 := by
 unfold Tx.signL
 repeat' split
 all_goals simp
theorem txts_r (l : List D) : (txts l).length ≤ (txtr l).length := by
 cases l with
 | nil => simp [txts]
 | cons d r => rw [txts, txtr]; simp
theorem txt2_r (l : List D) : (txt2 l).length ≤ (txtr l).length := by
 cases l with
 | nil => rw [txt2]; simp
 | cons d r =>
  cases r with
  | nil => rw [txt2, txt1]; simp
  | cons e r => rw [txt2, txt1, txtr, txtr]; simp; omega
theorem txtt_r (l : List D) : (txtt l).length ≤ (txtr l).length + 2 := by
 cases l with
 | nil => simp [txtt]
 | cons d r => rw [txtt, txtr]; simp
mutual
theorem cnt : ∀ (d : D) (deep p q : Nat), chk d deep p = (0, q) → p + 1 ≤ q ∧ (txt d).length + 3 + 1110 * p ≤ 1110 * q
 | .mk k n s m l t, deep, p, q, h => by
  rw [chk] at h
  split at h
  ·cases h
  split at h
  ·cases h
  split at h
  ·split at h
   ·rename_i h1
    obtain ⟨e, q1, hq⟩ : ∃ q1, chks l (deep + 1) (p + 1) = (0, q1) ∧ chks t (deep + 1) q1 = (0, q) := ⟨(chks l (deep + 1) (p + 1)).2, by rw [← h1], h⟩
    have a1 := cnts l _ _ _ q1
    have a2 := cnts t _ _ _ hq
    have b1 := txts_r l
    have b2 := txt2_r l
    have b3 := txtt_r t
    refine ⟨by omega, ?_⟩
    rw [txt]
    split
    ·have := sign_len (shortL k l)
     simp only [List.length_append]
     omega
    split
    ·have := wt_len k n s.data.toList
     omega
    ·have := sign_len (if k = 8 then 3 else 1)
     simp only [List.length_append, List.length_cons, List.length_nil]
     omega
   ·rename_i h1
    exact absurd (by rw [h]) h1
  ·cases h
theorem cnts : ∀ (l : List D) (deep p q : Nat), chks l deep p = (0, q) → p ≤ q ∧ (txtr l).length + 1110 * p ≤ 1110 * q
 | [], deep, p, q, h => by
  rw [chks] at h
  cases h
  simp [txtr]
 | d :: r, deep, p, q, h => by
  rw [chks] at h
  split at h
  ·rename_i h1
   have a1 := cnt d deep p (chk d deep p).2 (by rw [← h1])
   have a2 := cnts r _ _ _ h
   rw [txtr]
   simp only [List.length_cons, List.length_append]
   omega
  ·rename_i h1
   exact absurd (by rw [h]) h1
end
theorem txt_len {d : D} (h : check d = 0) : (txt d).length ≤ 4546560 := by
 unfold check at h
 have h1 := cnt d 1 0 (chk d 1 0).2 (by rw [← h])
 have h2 := chk_le d 1 0 (by omega)
 omega
end Rd
end Go.Proofs.Ytcopdfihaheplaa
namespace Go.Proofs.Ytcopdfihaheplaa
open Go.RowKit
attribute [local go_sem] Oper.semAt_some
set_option maxRecDepth 100000 in
theorem signs_at (k : Nat) (hk : k < 4) (w : World) : (Instr.index 91 (.agg #[.string ⟨#[113, 117, 111, 116, 101]⟩, .string ⟨#[113, 117, 97, 115, 105, 113, 117, 111, 116, 101]⟩, .string ⟨#[117, 110, 113, 117, 111, 116, 101]⟩, .string ⟨#[117, 110, 113, 117, 111, 116, 101, 45, 115, 112, 108, 105, 99, 105, 110, 103]⟩]) (.int .i64 (k : Int))).run Try.prog w = .ok (.string (Rd.sgn (4 + (k : Int)))) w := by
 obtain rfl | rfl | rfl | rfl : k = 0 ∨ k = 1 ∨ k = 2 ∨ k = 3 := by omega
 all_goals kernel_rfl
theorem bytes_eq {a b : ByteArray} (h : a.data = b.data) : a = b := by
 cases a; cases b; cases h; rfl
namespace Rd
open Dt
theorem short_at {k : Int} {x y : D} (hk : k = 6) (hx : x.k = 5) {j : Nat} (hj : j < 4) (hb : ∀ i, i < j → x.s ≠ sgn (4 + (i : Int))) (h : x.s = sgn (4 + (j : Int))) : shortL k [x, y] = 4 + (j : Int) := by
 have e : shortL k [x, y] = (if x.s = sgn 4 then 4 else if x.s = sgn 5 then 5 else if x.s = sgn 6 then 6 else if x.s = sgn 7 then 7 else 0) := by
  unfold shortL
  simp only
  rw [if_pos ⟨hk, hx⟩]
 rw [e]
 obtain rfl | rfl | rfl | rfl : j = 0 ∨ j = 1 ∨ j = 2 ∨ j = 3 := by omega
 ·have h' : x.s = sgn 4 := h
  rw [if_pos h']; rfl
 ·have b0 : x.s ≠ sgn 4 := hb 0 (by omega)
  have h' : x.s = sgn 5 := h
  rw [if_neg b0, if_pos h']; rfl
 ·have b0 : x.s ≠ sgn 4 := hb 0 (by omega)
  have b1 : x.s ≠ sgn 5 := hb 1 (by omega)
  have h' : x.s = sgn 6 := h
  rw [if_neg b0, if_neg b1, if_pos h']; rfl
 ·have b0 : x.s ≠ sgn 4 := hb 0 (by omega)
  have b1 : x.s ≠ sgn 5 := hb 1 (by omega)
  have b2 : x.s ≠ sgn 6 := hb 2 (by omega)
  have h' : x.s = sgn 7 := h
  rw [if_neg b0, if_neg b1, if_neg b2, if_pos h']; rfl
theorem short_no {k : Int} {x y : D} (hb : ∀ i, i < 4 → x.s ≠ sgn (4 + ((i : Nat) : Int))) : shortL k [x, y] = 0 := by
 have b0 : x.s ≠ sgn 4 := hb 0 (by omega)
 have b1 : x.s ≠ sgn 5 := hb 1 (by omega)
 have b2 : x.s ≠ sgn 6 := hb 2 (by omega)
 have b3 : x.s ≠ sgn 7 := hb 3 (by omega)
 unfold shortL
 simp only
 rw [if_neg b0, if_neg b1, if_neg b2, if_neg b3]
 split <;> rfl
end Rd
set_option maxRecDepth 100000 in
set_option maxHeartbeats 8000000 in
theorem rdQuoted_any {F : Nat → Prop} (x : Dt.D) (vm vl vt : Value) (w : World) (hR : Dt.Rep F w x vm vl vt) :
  Calls Try.prog 32 #[.agg #[.int .i64 x.k, .int .i64 x.n, .string x.s, vm, vl, vt]] w fun e w' => e = .returned (.int .i64 (Rd.shortL x.k x.l)) ∧ Below w.heap.size w w' := by
 obtain ⟨w1, hw1⟩ : ∃ w1, w.alloc (.cells #[.int .i64 x.k, .int .i64 x.n, .string x.s, vm, vl, vt] 25) = w1 := ⟨_, rfl⟩
 obtain ⟨hb1, hs1⟩ := new_below hw1
 have hX1 := Hp.new hw1
 have hrow := ((Dt.rep_iff _ _ _ _ _ _).1 (hR.below hb1)).2.1
 have HFORM : Hid (∃ b1 m1 p1 b3 m3 p3, vm = .slice b1 m1 p1 ∧ vt = .slice b3 m3 p3) := by
  obtain ⟨b1, m1, p1, b2, m2, p2, b3, m3, p3, e1, -, e3⟩ := hR.forms
  exact ⟨_, _, _, _, _, _, e1, e3⟩
 obtain ⟨R, hRR⟩ : ∃ R, Rd.shortL x.k x.l = R := ⟨_, rfl⟩
 obtain ⟨L, hL⟩ : ∃ L, x.l = L := ⟨_, rfl⟩
 rw [hL] at hrow hRR
 rw [hL, hRR]
 clear hL hR hs1
 obtain ⟨al, cl, rfl, hcl, hcs⟩ := hrow
 obtain ⟨b1, m1, p1, b3, m3, p3, e1, e3⟩ : ∃ b1 m1 p1 b3 m3 p3, vm = .slice b1 m1 p1 ∧ vt = .slice b3 m3 p3 := HFORM.out
 subst e1 e3
 obtain ⟨X, hX⟩ : ∃ X, w.heap.size = X := ⟨_, rfl⟩
 rw [hX] at hX1
 have HX1 := Lib.hid hX1
 have x0 := hX1.cell 0 rfl
 have x4 := hX1.cell 4 rfl
 have HB1 := Lib.hid hb1
 have HW1 := Lib.hid hw1
 clear hX1 hb1
 by_cases h6 : x.k = 6
 case neg =>
  have h6' : (x.k == 6) = false := by simpa using h6
  have HE : Hid (R = 0) := hRR.symm.trans ((Rd.short_cases x.k L).elim id (fun h => absurd h.1 h6))
  clear hRR hcs h6
  go_enter Try.func32, Try.ntmps32
  go_wp2
  go_ret
  rw [HE.out]
  exact ⟨rfl, HB1.out⟩
 have h6' : (x.k == 6) = true := by simpa using h6
 by_cases h2 : L.length = 2
 case neg =>
  have h2' : ((L.length : Int) == 2) = false := by simp; omega
  have HE : Hid (R = 0) := hRR.symm.trans ((Rd.short_cases x.k L).elim id (fun h => by obtain ⟨y, z, e, -⟩ := h.2.2.2; rw [e] at h2; exact absurd rfl h2))
  clear hRR hcs h6 h2
  go_enter Try.func32, Try.ntmps32
  go_wp2
  go_ret
  rw [HE.out]
  exact ⟨rfl, HB1.out⟩
 obtain ⟨y, z, rfl⟩ : ∃ y z, L = [y, z] := by
  match L, h2 with
  | [y, z], _ => exact ⟨y, z, rfl⟩
 obtain ⟨g, o, rfl, -, hgl, hreps⟩ := hcs (by simp)
 obtain ⟨um, ul, ut, hsix, -⟩ := hreps.at 0 (by simp)
 rw [Nat.zero_mul, Nat.add_zero] at hsix
 have y0 := hsix.c0
 have y2 := hsix.c2
 simp only [List.getElem_cons_zero] at y0 y2
 rw [show ([y, z] : List Dt.D).length = 2 from rfl] at x4 HX1 HW1 hw1
 have HSX := Lib.hid hsix
 have HGL := Lib.hid hgl
 clear hreps hsix h2 hgl
 by_cases h5 : y.k = 5
 case neg =>
  have h5' : (y.k == 5) = false := by simpa using h5
  have HE : Hid (R = 0) := hRR.symm.trans ((Rd.short_cases x.k [y, z]).elim id (fun h => by obtain ⟨y', z', e, h7, -⟩ := h.2.2.2; cases e; exact absurd h7 h5))
  clear hRR hcs h6 h5
  go_enter Try.func32, Try.ntmps32
  go_wp2
  go_ret
  rw [HE.out]
  exact ⟨rfl, HB1.out⟩
 have h5' : (y.k == 5) = true := by simpa using h5
 have hsg := signs_any w1
 have HRR : Hid (Rd.shortL x.k [y, z] = R) := hRR
 have H56 : Hid (x.k = 6 ∧ y.k = 5) := ⟨h6, h5⟩
 clear hRR hcs h6 h5
 go_enter Try.func32, Try.ntmps32
 go_wp2_with fail
 refine hsg.mono ?_
 rintro e w2 ⟨rfl, hb2⟩
 have HBW : Hid (Below w.heap.size w w2) := HB1.out.trans (hb2.mono HB1.out.size)
 have hX2 := HX1.out.below hb2
 have x4' := hX2.cell 4 rfl
 have y2' := (HSX.out.keep (S := fun _ => False) (keep_of_below hb2) HGL.out id).c2
 simp only [List.getElem_cons_zero] at y2'
 clear hsg hb2 hX2 x0 x4 y0 y2 hw1
 go_wp2
 go_loopw [23] (fun vi wr => ∃ k : Nat, vi = .int .i64 k ∧ k ≤ 4 ∧ Hid (∀ i, i < k → y.s ≠ Rd.sgn (4 + (i : Int))) ∧ wr = w2) (fun vi _ => 4 - (intOf vi).toNat)
 case atStart => exact ⟨0, rfl, by omega, fun i hi => absurd hi (by omega), rfl⟩
 case round =>
  obtain ⟨k, rfl, hk, HNE, rfl⟩ := hrel
  by_cases hlt : k < 4
  ·have hki : (k : Int) < 4 := by omega
   have hix := signs_at k hlt
   by_cases he : y.s = Rd.sgn (4 + (k : Int))
   ·have HE : Hid (R = 4 + (k : Int)) := HRR.out.symm.trans (Rd.short_at H56.out.1 H56.out.2 hlt HNE.out he)
    rw [he] at y2'
    go_wp2
    go_ret
    rw [HE.out]
    exact ⟨rfl, HBW.out⟩
   ·have he' : (y.s.toList == (Rd.sgn (4 + (k : Int))).toList) = false := by
     rw [ByteArray.toList_eq, ByteArray.toList_eq, beq_eq_false_iff_ne]
     intro e
     exact he (bytes_eq (Array.toList_inj.1 e))
    have HN : Hid (∀ i, i < k + 1 → y.s ≠ Rd.sgn (4 + (i : Int))) := fun i hi => by
     rcases Nat.lt_succ_iff_lt_or_eq.1 hi with hi | rfl
     ·exact HNE.out i hi
     ·exact he
    clear he
    go_wp2
    go_roundw
    case rel => exact ⟨k + 1, by simp, by omega, HN, trivial⟩
    case measure => simp [intOf]; omega
  ·obtain rfl : k = 4 := by omega
   have HE : Hid (R = 0) := HRR.out.symm.trans (Rd.short_no (fun i hi => HNE.out i hi))
   go_wp2
   go_ret
   rw [HE.out]
   exact ⟨rfl, HBW.out⟩
end Go.Proofs.Ytcopdfihaheplaa
namespace Go.Proofs.Ytcopdfihaheplaa
open Go.RowKit
attribute [local go_sem] Oper.semAt_some
namespace Rd
open Dt
def Fine (d : D) : Prop := ∃ deep p q, chk d deep p = (0, q)
theorem chks_each : ∀ (l : List D) (deep p q : Nat), chks l deep p = (0, q) → ∀ x ∈ l, Fine x
 | [], _, _, _, _, x, hx => by cases hx
 | d :: r, deep, p, q, h, x, hx => by
  rw [chks] at h
  split at h
  ·rename_i h1
   rcases List.mem_cons.1 hx with rfl | hx
   ·exact ⟨deep, p, (chk x deep p).2, by rw [← h1]⟩
   ·exact chks_each r _ _ _ h x hx
  ·rename_i h1
   exact absurd (by rw [h]) h1
theorem fine_parts {d : D} (h : Fine d) : single d = true ∧ (∀ x ∈ d.l, Fine x) ∧ (∀ x ∈ d.t, Fine x) := by
 obtain ⟨deep, p, q, h⟩ := h
 cases d
 rename_i k n s m l t
 rw [chk] at h
 split at h
 ·cases h
 split at h
 ·cases h
 split at h
 ·rename_i hs
  split at h
  ·rename_i h1
   exact ⟨hs, chks_each l (deep + 1) (p + 1) (chks l (deep + 1) (p + 1)).2 (by rw [← h1]), chks_each t _ _ _ h⟩
  ·rename_i h1
   exact absurd (by rw [h]) h1
 ·cases h
theorem fine_of {d : D} (h : check d = 0) : Fine d := ⟨1, 0, (chk d 1 0).2, by unfold check at h; rw [← h]⟩
theorem sg_short {s : List UInt8} (h : Lx.symbol s = true) : s.length ≤ 1000000 := by have := Tx.sym_len s h; omega
theorem single_s {d : D} (h : single d = true) : d.s.size ≤ 1000000 := by
 cases d
 rename_i k n s m l t
 show s.size ≤ 1000000
 rw [← Fx.size_toList]
 unfold single at h
 have h0 : ∀ (b : List UInt8), b.isEmpty = true → b.length ≤ 1000000 := fun b hb => by rw [List.isEmpty_iff.1 hb]; simp
 simp only at h
 by_cases h4 : k = 4
 ·subst h4
  rw [if_neg (by decide), if_neg (by decide), if_neg (by decide), if_pos rfl] at h
  simp only [Bool.and_eq_true, ascii, decide_eq_true_eq] at h
  omega
 by_cases h5 : k = 5
 ·subst h5
  rw [if_neg (by decide), if_neg (by decide), if_neg (by decide), if_neg (by decide), if_pos rfl] at h
  simp only [Bool.and_eq_true] at h
  exact sg_short h.1.1.1.1.1
 ·refine h0 _ ?_
  revert h
  repeat' split
  all_goals (intro h; first | (simp only [Bool.and_eq_true] at h; first | exact h.1.1.1.2 | exact h.1.1.2 | exact h.1.1.1.1.2) | exact absurd ‹k = 4› h4 | exact absurd ‹k = 5› h5 | cases h)
theorem Pw.from {base P : Nat} {w w1 w' : World} {acc : List UInt8} {v0 v : Value} (hb : Below w.heap.size w w1) (h : Pw base P w1 v0 w' acc v) : Pw base P w v0 w' acc v :=
 ⟨h.hp, h.row, (keep_of_below hb).trans h.kp, h.ow.elim .inl (fun ⟨k, e, hk⟩ => .inr ⟨k, e, Nat.le_trans hb.size hk⟩)⟩
theorem V_getD (o : Option (List UInt8)) : Tx.V o = .tuple #[.string ⟨(o.getD []).toArray⟩, .int .i64 (o.elim 30 (fun _ => 0))] := by cases o <;> rfl
def PutIs (d : D) : Prop := ∀ (F : Nat → Prop) (base P : Nat) (acc : List UInt8) (v0 vm vl vt : Value) (w : World), Wf d → Fine d → Rep F w d vm vl vt → (∀ k, F k → k < base ∧ k ≠ P) → Pw base P w v0 w acc v0 → P < base → base ≤ w.heap.size → acc.length + (txt d).length ≤ 140737488355328 →
 Calls Try.prog 20 #[.pointer (some ⟨P, 0, none⟩), .agg #[.int .i64 d.k, .int .i64 d.n, .string d.s, vm, vl, vt]] w (PutP base P (acc ++ txt d) v0 w)
end Rd
theorem psign1 : Hid (∀ W, Calls Try.prog 52 #[.agg #[.int .i64 1, .int .i64 0, .int .i64 0, .int .i64 0, .string ⟨#[]⟩]] W fun e w' => e = .returned (.tuple #[.string ⟨(Tx.signL 1).toArray⟩, .int .i64 0]) ∧ Below W.heap.size W w') := fun W => Text1_any 0 0 0 ⟨#[]⟩ W
theorem psign2 : Hid (∀ W, Calls Try.prog 52 #[.agg #[.int .i64 2, .int .i64 0, .int .i64 0, .int .i64 0, .string ⟨#[]⟩]] W fun e w' => e = .returned (.tuple #[.string ⟨(Tx.signL 2).toArray⟩, .int .i64 0]) ∧ Below W.heap.size W w') := fun W => Text2_any 0 0 0 ⟨#[]⟩ W
theorem psign3 : Hid (∀ W, Calls Try.prog 52 #[.agg #[.int .i64 3, .int .i64 0, .int .i64 0, .int .i64 0, .string ⟨#[]⟩]] W fun e w' => e = .returned (.tuple #[.string ⟨(Tx.signL 3).toArray⟩, .int .i64 0]) ∧ Below W.heap.size W w') := fun W => Text3_any 0 0 0 ⟨#[]⟩ W
theorem psign4 : Hid (∀ W, Calls Try.prog 52 #[.agg #[.int .i64 4, .int .i64 0, .int .i64 0, .int .i64 0, .string ⟨#[]⟩]] W fun e w' => e = .returned (.tuple #[.string ⟨(Tx.signL 4).toArray⟩, .int .i64 0]) ∧ Below W.heap.size W w') := fun W => Text4_any 0 0 0 ⟨#[]⟩ W
theorem psign5 : Hid (∀ W, Calls Try.prog 52 #[.agg #[.int .i64 5, .int .i64 0, .int .i64 0, .int .i64 0, .string ⟨#[]⟩]] W fun e w' => e = .returned (.tuple #[.string ⟨(Tx.signL 5).toArray⟩, .int .i64 0]) ∧ Below W.heap.size W w') := fun W => Text5_any 0 0 0 ⟨#[]⟩ W
theorem psign6 : Hid (∀ W, Calls Try.prog 52 #[.agg #[.int .i64 6, .int .i64 0, .int .i64 0, .int .i64 0, .string ⟨#[]⟩]] W fun e w' => e = .returned (.tuple #[.string ⟨(Tx.signL 6).toArray⟩, .int .i64 0]) ∧ Below W.heap.size W w') := fun W => Text6_any 0 0 0 ⟨#[]⟩ W
theorem psign7 : Hid (∀ W, Calls Try.prog 52 #[.agg #[.int .i64 7, .int .i64 0, .int .i64 0, .int .i64 0, .string ⟨#[]⟩]] W fun e w' => e = .returned (.tuple #[.string ⟨(Tx.signL 7).toArray⟩, .int .i64 0]) ∧ Below W.heap.size W w') := fun W => Text7_any 0 0 0 ⟨#[]⟩ W
set_option maxRecDepth 100000 in
set_option maxHeartbeats 8000000 in
theorem put_leaf1 {F : Nat → Prop} (n : Int) (s : ByteArray) (m : List Int) (l t : List Dt.D) (base P : Nat) (acc : List UInt8) (v0 vm vl vt : Value) (w : World) (hn : -9223372036854775808 ≤ n ∧ n ≤ 9223372036854775807) (_hs : s.size ≤ 1000000) (hR : Dt.Rep F w (.mk 1 n s m l t) vm vl vt)
  (hP : Rd.Pw base P w v0 w acc v0) (hPb : P < base) (hb : base ≤ w.heap.size) (hl : acc.length + (Rd.wt 1 n s.data.toList).length ≤ 140737488355328) :
  Calls Try.prog 20 #[.pointer (some ⟨P, 0, none⟩), .agg #[.int .i64 1, .int .i64 n, .string s, vm, vl, vt]] w (Rd.PutP base P (acc ++ Rd.wt 1 n s.data.toList) v0 w) := by
 obtain ⟨b1, m1, p1, b2, m2, p2, b3, m3, p3, rfl, rfl, rfl⟩ := hR.forms
 obtain ⟨w1, hw1⟩ : ∃ w1, w.alloc (.cells #[.int .i64 1, .int .i64 n, .string s, .slice b1 m1 p1, .slice b2 m2 p2, .slice b3 m3 p3] 25) = w1 := ⟨_, rfl⟩
 obtain ⟨hb1, hs1⟩ := new_below hw1
 have hX1 := Hp.new hw1
 have hq := rdQuoted_any (.mk 1 n s m l t) _ _ _ w1 (hR.below hb1)
 rw [show Rd.shortL (Dt.D.mk 1 n s m l t).k (Dt.D.mk 1 n s m l t).l = 0 from (Rd.short_cases 1 l).elim id (fun h => absurd h.1 (by decide))] at hq
 simp only [Dt.D.k, Dt.D.n, Dt.D.s] at hq
 obtain ⟨X, hX⟩ : ∃ X, w.heap.size = X := ⟨_, rfl⟩
 rw [hX] at hX1 hs1
 obtain ⟨c, x, hx, HT⟩ : ∃ (c : Int) (x : List UInt8), Rd.wt 1 n s.data.toList = x ∧ Hid (∀ W, Calls Try.prog 52 #[.agg #[.int .i64 9, .int .i64 0, .int .i64 0, .int .i64 n, .string ⟨#[]⟩]] W fun e w' => e = .returned (.tuple #[.string ⟨x.toArray⟩, .int .i64 c]) ∧ Below W.heap.size W w') := by
  refine ⟨(Tx.text 9 n (⟨#[]⟩ : ByteArray).data.toList).elim 30 (fun _ => 0), _, rfl, fun W => ?_⟩
  have h := Text9_any 0 0 n ⟨#[]⟩ W (by decide) hn
  rw [Rd.V_getD] at h
  exact h
 rw [hx] at hl ⊢
 have HB1 := Lib.hid hb1
 have HX1 := Lib.hid hX1
 have HPW := Lib.hid hP
 have HBB : Hid (base ≤ w1.heap.size ∧ w.heap.size = X) := ⟨by have := hb1.size; omega, hX⟩
 have x0 := hX1.cell 0 rfl
 have x1 := hX1.cell 1 rfl
 have x2 := hX1.cell 2 rfl
 have x3 := hX1.cell 3 rfl
 have x4 := hX1.cell 4 rfl
 have x5 := hX1.cell 5 rfl
 clear hX1 hb1 hs1 hR hP hb hx
 go_enter Try.func20, Try.ntmps20
 go_wp2_with fail
 refine hq.mono ?_
 rintro e w2 ⟨rfl, hb2⟩
 have hX2 := HX1.out.below hb2
 have hp2 := (HPW.out.below HB1.out).below hb2
 have hww : Below w.heap.size w w2 := HB1.out.trans (hb2.mono HB1.out.size)
 have hcw := pword_any 9 n c ⟨#[]⟩ x HT base P acc w2 v0 hp2.again hPb (by have := HBB.out; have := hb2.size; omega) hl
 have HWW := Lib.hid hww
 clear x0 x1 x2 x3 x4 x5 hw1 hq hb2 hp2 hww
 have x0 := hX2.cell 0 rfl
 have x1 := hX2.cell 1 rfl
 have x2 := hX2.cell 2 rfl
 have x3 := hX2.cell 3 rfl
 have x4 := hX2.cell 4 rfl
 have x5 := hX2.cell 5 rfl
 clear hX2
 go_wp2_with fail
 refine hcw.mono ?_
 rintro e w3 ⟨rfl, v3, hp3⟩
 have HE : Hid (Rd.PutP base P (acc ++ x) v0 w (.returned (.tuple #[])) w3) := ⟨rfl, v3, Rd.Pw.from HWW.out hp3⟩
 clear hcw hp3 x0 x1 x2 x3 x4 x5
 go_wp2
 refine bodyPost_ret (v := .tuple #[]) (by simp [results, Try.results20, go_sem, *]) rfl ?_
 exact HE.out
set_option maxRecDepth 100000 in
set_option maxHeartbeats 8000000 in
theorem put_leaf2 {F : Nat → Prop} (n : Int) (s : ByteArray) (m : List Int) (l t : List Dt.D) (base P : Nat) (acc : List UInt8) (v0 vm vl vt : Value) (w : World) (hn : -9223372036854775808 ≤ n ∧ n ≤ 9223372036854775807) (_hs : s.size ≤ 1000000) (hR : Dt.Rep F w (.mk 2 n s m l t) vm vl vt)
  (hP : Rd.Pw base P w v0 w acc v0) (hPb : P < base) (hb : base ≤ w.heap.size) (hl : acc.length + (Rd.wt 2 n s.data.toList).length ≤ 140737488355328) :
  Calls Try.prog 20 #[.pointer (some ⟨P, 0, none⟩), .agg #[.int .i64 2, .int .i64 n, .string s, vm, vl, vt]] w (Rd.PutP base P (acc ++ Rd.wt 2 n s.data.toList) v0 w) := by
 obtain ⟨b1, m1, p1, b2, m2, p2, b3, m3, p3, rfl, rfl, rfl⟩ := hR.forms
 obtain ⟨w1, hw1⟩ : ∃ w1, w.alloc (.cells #[.int .i64 2, .int .i64 n, .string s, .slice b1 m1 p1, .slice b2 m2 p2, .slice b3 m3 p3] 25) = w1 := ⟨_, rfl⟩
 obtain ⟨hb1, hs1⟩ := new_below hw1
 have hX1 := Hp.new hw1
 have hq := rdQuoted_any (.mk 2 n s m l t) _ _ _ w1 (hR.below hb1)
 rw [show Rd.shortL (Dt.D.mk 2 n s m l t).k (Dt.D.mk 2 n s m l t).l = 0 from (Rd.short_cases 2 l).elim id (fun h => absurd h.1 (by decide))] at hq
 simp only [Dt.D.k, Dt.D.n, Dt.D.s] at hq
 obtain ⟨X, hX⟩ : ∃ X, w.heap.size = X := ⟨_, rfl⟩
 rw [hX] at hX1 hs1
 obtain ⟨c, x, hx, HT⟩ : ∃ (c : Int) (x : List UInt8), Rd.wt 2 n s.data.toList = x ∧ Hid (∀ W, Calls Try.prog 52 #[.agg #[.int .i64 10, .int .i64 0, .int .i64 0, .int .i64 n, .string ⟨#[]⟩]] W fun e w' => e = .returned (.tuple #[.string ⟨x.toArray⟩, .int .i64 c]) ∧ Below W.heap.size W w') := by
  refine ⟨(Tx.text 10 n (⟨#[]⟩ : ByteArray).data.toList).elim 30 (fun _ => 0), _, rfl, fun W => ?_⟩
  have h := Text10_any 0 0 n ⟨#[]⟩ W (by decide) hn
  rw [Rd.V_getD] at h
  exact h
 rw [hx] at hl ⊢
 have HB1 := Lib.hid hb1
 have HX1 := Lib.hid hX1
 have HPW := Lib.hid hP
 have HBB : Hid (base ≤ w1.heap.size ∧ w.heap.size = X) := ⟨by have := hb1.size; omega, hX⟩
 have x0 := hX1.cell 0 rfl
 have x1 := hX1.cell 1 rfl
 have x2 := hX1.cell 2 rfl
 have x3 := hX1.cell 3 rfl
 have x4 := hX1.cell 4 rfl
 have x5 := hX1.cell 5 rfl
 clear hX1 hb1 hs1 hR hP hb hx
 go_enter Try.func20, Try.ntmps20
 go_wp2_with fail
 refine hq.mono ?_
 rintro e w2 ⟨rfl, hb2⟩
 have hX2 := HX1.out.below hb2
 have hp2 := (HPW.out.below HB1.out).below hb2
 have hww : Below w.heap.size w w2 := HB1.out.trans (hb2.mono HB1.out.size)
 have hcw := pword_any 10 n c ⟨#[]⟩ x HT base P acc w2 v0 hp2.again hPb (by have := HBB.out; have := hb2.size; omega) hl
 have HWW := Lib.hid hww
 clear x0 x1 x2 x3 x4 x5 hw1 hq hb2 hp2 hww
 have x0 := hX2.cell 0 rfl
 have x1 := hX2.cell 1 rfl
 have x2 := hX2.cell 2 rfl
 have x3 := hX2.cell 3 rfl
 have x4 := hX2.cell 4 rfl
 have x5 := hX2.cell 5 rfl
 clear hX2
 go_wp2_with fail
 refine hcw.mono ?_
 rintro e w3 ⟨rfl, v3, hp3⟩
 have HE : Hid (Rd.PutP base P (acc ++ x) v0 w (.returned (.tuple #[])) w3) := ⟨rfl, v3, Rd.Pw.from HWW.out hp3⟩
 clear hcw hp3 x0 x1 x2 x3 x4 x5
 go_wp2
 refine bodyPost_ret (v := .tuple #[]) (by simp [results, Try.results20, go_sem, *]) rfl ?_
 exact HE.out
set_option maxRecDepth 100000 in
set_option maxHeartbeats 8000000 in
theorem put_leaf3 {F : Nat → Prop} (n : Int) (s : ByteArray) (m : List Int) (l t : List Dt.D) (base P : Nat) (acc : List UInt8) (v0 vm vl vt : Value) (w : World) (hn : -9223372036854775808 ≤ n ∧ n ≤ 9223372036854775807) (_hs : s.size ≤ 1000000) (hR : Dt.Rep F w (.mk 3 n s m l t) vm vl vt)
  (hP : Rd.Pw base P w v0 w acc v0) (hPb : P < base) (hb : base ≤ w.heap.size) (hl : acc.length + (Rd.wt 3 n s.data.toList).length ≤ 140737488355328) :
  Calls Try.prog 20 #[.pointer (some ⟨P, 0, none⟩), .agg #[.int .i64 3, .int .i64 n, .string s, vm, vl, vt]] w (Rd.PutP base P (acc ++ Rd.wt 3 n s.data.toList) v0 w) := by
 obtain ⟨b1, m1, p1, b2, m2, p2, b3, m3, p3, rfl, rfl, rfl⟩ := hR.forms
 obtain ⟨w1, hw1⟩ : ∃ w1, w.alloc (.cells #[.int .i64 3, .int .i64 n, .string s, .slice b1 m1 p1, .slice b2 m2 p2, .slice b3 m3 p3] 25) = w1 := ⟨_, rfl⟩
 obtain ⟨hb1, hs1⟩ := new_below hw1
 have hX1 := Hp.new hw1
 have hq := rdQuoted_any (.mk 3 n s m l t) _ _ _ w1 (hR.below hb1)
 rw [show Rd.shortL (Dt.D.mk 3 n s m l t).k (Dt.D.mk 3 n s m l t).l = 0 from (Rd.short_cases 3 l).elim id (fun h => absurd h.1 (by decide))] at hq
 simp only [Dt.D.k, Dt.D.n, Dt.D.s] at hq
 obtain ⟨X, hX⟩ : ∃ X, w.heap.size = X := ⟨_, rfl⟩
 rw [hX] at hX1 hs1
 obtain ⟨c, x, hx, HT⟩ : ∃ (c : Int) (x : List UInt8), Rd.wt 3 n s.data.toList = x ∧ Hid (∀ W, Calls Try.prog 52 #[.agg #[.int .i64 11, .int .i64 0, .int .i64 0, .int .i64 n, .string ⟨#[]⟩]] W fun e w' => e = .returned (.tuple #[.string ⟨x.toArray⟩, .int .i64 c]) ∧ Below W.heap.size W w') := by
  refine ⟨(Tx.text 11 n (⟨#[]⟩ : ByteArray).data.toList).elim 30 (fun _ => 0), _, rfl, fun W => ?_⟩
  have h := Text11_any 0 0 n ⟨#[]⟩ W (by decide) hn
  rw [Rd.V_getD] at h
  exact h
 rw [hx] at hl ⊢
 have HB1 := Lib.hid hb1
 have HX1 := Lib.hid hX1
 have HPW := Lib.hid hP
 have HBB : Hid (base ≤ w1.heap.size ∧ w.heap.size = X) := ⟨by have := hb1.size; omega, hX⟩
 have x0 := hX1.cell 0 rfl
 have x1 := hX1.cell 1 rfl
 have x2 := hX1.cell 2 rfl
 have x3 := hX1.cell 3 rfl
 have x4 := hX1.cell 4 rfl
 have x5 := hX1.cell 5 rfl
 clear hX1 hb1 hs1 hR hP hb hx
 go_enter Try.func20, Try.ntmps20
 go_wp2_with fail
 refine hq.mono ?_
 rintro e w2 ⟨rfl, hb2⟩
 have hX2 := HX1.out.below hb2
 have hp2 := (HPW.out.below HB1.out).below hb2
 have hww : Below w.heap.size w w2 := HB1.out.trans (hb2.mono HB1.out.size)
 have hcw := pword_any 11 n c ⟨#[]⟩ x HT base P acc w2 v0 hp2.again hPb (by have := HBB.out; have := hb2.size; omega) hl
 have HWW := Lib.hid hww
 clear x0 x1 x2 x3 x4 x5 hw1 hq hb2 hp2 hww
 have x0 := hX2.cell 0 rfl
 have x1 := hX2.cell 1 rfl
 have x2 := hX2.cell 2 rfl
 have x3 := hX2.cell 3 rfl
 have x4 := hX2.cell 4 rfl
 have x5 := hX2.cell 5 rfl
 clear hX2
 go_wp2_with fail
 refine hcw.mono ?_
 rintro e w3 ⟨rfl, v3, hp3⟩
 have HE : Hid (Rd.PutP base P (acc ++ x) v0 w (.returned (.tuple #[])) w3) := ⟨rfl, v3, Rd.Pw.from HWW.out hp3⟩
 clear hcw hp3 x0 x1 x2 x3 x4 x5
 go_wp2
 refine bodyPost_ret (v := .tuple #[]) (by simp [results, Try.results20, go_sem, *]) rfl ?_
 exact HE.out
set_option maxRecDepth 100000 in
set_option maxHeartbeats 8000000 in
theorem put_leaf4 {F : Nat → Prop} (n : Int) (s : ByteArray) (m : List Int) (l t : List Dt.D) (base P : Nat) (acc : List UInt8) (v0 vm vl vt : Value) (w : World) (_hn : -9223372036854775808 ≤ n ∧ n ≤ 9223372036854775807) (hs : s.size ≤ 1000000) (hR : Dt.Rep F w (.mk 4 n s m l t) vm vl vt)
  (hP : Rd.Pw base P w v0 w acc v0) (hPb : P < base) (hb : base ≤ w.heap.size) (hl : acc.length + (Rd.wt 4 n s.data.toList).length ≤ 140737488355328) :
  Calls Try.prog 20 #[.pointer (some ⟨P, 0, none⟩), .agg #[.int .i64 4, .int .i64 n, .string s, vm, vl, vt]] w (Rd.PutP base P (acc ++ Rd.wt 4 n s.data.toList) v0 w) := by
 obtain ⟨b1, m1, p1, b2, m2, p2, b3, m3, p3, rfl, rfl, rfl⟩ := hR.forms
 obtain ⟨w1, hw1⟩ : ∃ w1, w.alloc (.cells #[.int .i64 4, .int .i64 n, .string s, .slice b1 m1 p1, .slice b2 m2 p2, .slice b3 m3 p3] 25) = w1 := ⟨_, rfl⟩
 obtain ⟨hb1, hs1⟩ := new_below hw1
 have hX1 := Hp.new hw1
 have hq := rdQuoted_any (.mk 4 n s m l t) _ _ _ w1 (hR.below hb1)
 rw [show Rd.shortL (Dt.D.mk 4 n s m l t).k (Dt.D.mk 4 n s m l t).l = 0 from (Rd.short_cases 4 l).elim id (fun h => absurd h.1 (by decide))] at hq
 simp only [Dt.D.k, Dt.D.n, Dt.D.s] at hq
 obtain ⟨X, hX⟩ : ∃ X, w.heap.size = X := ⟨_, rfl⟩
 rw [hX] at hX1 hs1
 obtain ⟨c, x, hx, HT⟩ : ∃ (c : Int) (x : List UInt8), Rd.wt 4 n s.data.toList = x ∧ Hid (∀ W, Calls Try.prog 52 #[.agg #[.int .i64 12, .int .i64 0, .int .i64 0, .int .i64 0, .string s]] W fun e w' => e = .returned (.tuple #[.string ⟨x.toArray⟩, .int .i64 c]) ∧ Below W.heap.size W w') := by
  refine ⟨(Tx.text 12 0 (s : ByteArray).data.toList).elim 30 (fun _ => 0), _, rfl, fun W => ?_⟩
  have h := Text12_any 0 0 0 s W hs (by decide)
  rw [Rd.V_getD] at h
  exact h
 rw [hx] at hl ⊢
 have HB1 := Lib.hid hb1
 have HX1 := Lib.hid hX1
 have HPW := Lib.hid hP
 have HBB : Hid (base ≤ w1.heap.size ∧ w.heap.size = X) := ⟨by have := hb1.size; omega, hX⟩
 have x0 := hX1.cell 0 rfl
 have x1 := hX1.cell 1 rfl
 have x2 := hX1.cell 2 rfl
 have x3 := hX1.cell 3 rfl
 have x4 := hX1.cell 4 rfl
 have x5 := hX1.cell 5 rfl
 clear hX1 hb1 hs1 hR hP hb hx
 go_enter Try.func20, Try.ntmps20
 go_wp2_with fail
 refine hq.mono ?_
 rintro e w2 ⟨rfl, hb2⟩
 have hX2 := HX1.out.below hb2
 have hp2 := (HPW.out.below HB1.out).below hb2
 have hww : Below w.heap.size w w2 := HB1.out.trans (hb2.mono HB1.out.size)
 have hcw := pword_any 12 0 c s x HT base P acc w2 v0 hp2.again hPb (by have := HBB.out; have := hb2.size; omega) hl
 have HWW := Lib.hid hww
 clear x0 x1 x2 x3 x4 x5 hw1 hq hb2 hp2 hww
 have x0 := hX2.cell 0 rfl
 have x1 := hX2.cell 1 rfl
 have x2 := hX2.cell 2 rfl
 have x3 := hX2.cell 3 rfl
 have x4 := hX2.cell 4 rfl
 have x5 := hX2.cell 5 rfl
 clear hX2
 go_wp2_with fail
 refine hcw.mono ?_
 rintro e w3 ⟨rfl, v3, hp3⟩
 have HE : Hid (Rd.PutP base P (acc ++ x) v0 w (.returned (.tuple #[])) w3) := ⟨rfl, v3, Rd.Pw.from HWW.out hp3⟩
 clear hcw hp3 x0 x1 x2 x3 x4 x5
 go_wp2
 refine bodyPost_ret (v := .tuple #[]) (by simp [results, Try.results20, go_sem, *]) rfl ?_
 exact HE.out
set_option maxRecDepth 100000 in
set_option maxHeartbeats 8000000 in
theorem put_leaf5 {F : Nat → Prop} (n : Int) (s : ByteArray) (m : List Int) (l t : List Dt.D) (base P : Nat) (acc : List UInt8) (v0 vm vl vt : Value) (w : World) (_hn : -9223372036854775808 ≤ n ∧ n ≤ 9223372036854775807) (hs : s.size ≤ 1000000) (hR : Dt.Rep F w (.mk 5 n s m l t) vm vl vt)
  (hP : Rd.Pw base P w v0 w acc v0) (hPb : P < base) (hb : base ≤ w.heap.size) (hl : acc.length + (Rd.wt 5 n s.data.toList).length ≤ 140737488355328) :
  Calls Try.prog 20 #[.pointer (some ⟨P, 0, none⟩), .agg #[.int .i64 5, .int .i64 n, .string s, vm, vl, vt]] w (Rd.PutP base P (acc ++ Rd.wt 5 n s.data.toList) v0 w) := by
 obtain ⟨b1, m1, p1, b2, m2, p2, b3, m3, p3, rfl, rfl, rfl⟩ := hR.forms
 obtain ⟨w1, hw1⟩ : ∃ w1, w.alloc (.cells #[.int .i64 5, .int .i64 n, .string s, .slice b1 m1 p1, .slice b2 m2 p2, .slice b3 m3 p3] 25) = w1 := ⟨_, rfl⟩
 obtain ⟨hb1, hs1⟩ := new_below hw1
 have hX1 := Hp.new hw1
 have hq := rdQuoted_any (.mk 5 n s m l t) _ _ _ w1 (hR.below hb1)
 rw [show Rd.shortL (Dt.D.mk 5 n s m l t).k (Dt.D.mk 5 n s m l t).l = 0 from (Rd.short_cases 5 l).elim id (fun h => absurd h.1 (by decide))] at hq
 simp only [Dt.D.k, Dt.D.n, Dt.D.s] at hq
 obtain ⟨X, hX⟩ : ∃ X, w.heap.size = X := ⟨_, rfl⟩
 rw [hX] at hX1 hs1
 obtain ⟨c, x, hx, HT⟩ : ∃ (c : Int) (x : List UInt8), Rd.wt 5 n s.data.toList = x ∧ Hid (∀ W, Calls Try.prog 52 #[.agg #[.int .i64 13, .int .i64 0, .int .i64 0, .int .i64 0, .string s]] W fun e w' => e = .returned (.tuple #[.string ⟨x.toArray⟩, .int .i64 c]) ∧ Below W.heap.size W w') := by
  refine ⟨(Tx.text 13 0 (s : ByteArray).data.toList).elim 30 (fun _ => 0), _, rfl, fun W => ?_⟩
  have h := Text13_any 0 0 0 s W hs (by decide)
  rw [Rd.V_getD] at h
  exact h
 rw [hx] at hl ⊢
 have HB1 := Lib.hid hb1
 have HX1 := Lib.hid hX1
 have HPW := Lib.hid hP
 have HBB : Hid (base ≤ w1.heap.size ∧ w.heap.size = X) := ⟨by have := hb1.size; omega, hX⟩
 have x0 := hX1.cell 0 rfl
 have x1 := hX1.cell 1 rfl
 have x2 := hX1.cell 2 rfl
 have x3 := hX1.cell 3 rfl
 have x4 := hX1.cell 4 rfl
 have x5 := hX1.cell 5 rfl
 clear hX1 hb1 hs1 hR hP hb hx
 go_enter Try.func20, Try.ntmps20
 go_wp2_with fail
 refine hq.mono ?_
 rintro e w2 ⟨rfl, hb2⟩
 have hX2 := HX1.out.below hb2
 have hp2 := (HPW.out.below HB1.out).below hb2
 have hww : Below w.heap.size w w2 := HB1.out.trans (hb2.mono HB1.out.size)
 have hcw := pword_any 13 0 c s x HT base P acc w2 v0 hp2.again hPb (by have := HBB.out; have := hb2.size; omega) hl
 have HWW := Lib.hid hww
 clear x0 x1 x2 x3 x4 x5 hw1 hq hb2 hp2 hww
 have x0 := hX2.cell 0 rfl
 have x1 := hX2.cell 1 rfl
 have x2 := hX2.cell 2 rfl
 have x3 := hX2.cell 3 rfl
 have x4 := hX2.cell 4 rfl
 have x5 := hX2.cell 5 rfl
 clear hX2
 go_wp2_with fail
 refine hcw.mono ?_
 rintro e w3 ⟨rfl, v3, hp3⟩
 have HE : Hid (Rd.PutP base P (acc ++ x) v0 w (.returned (.tuple #[])) w3) := ⟨rfl, v3, Rd.Pw.from HWW.out hp3⟩
 clear hcw hp3 x0 x1 x2 x3 x4 x5
 go_wp2
 refine bodyPost_ret (v := .tuple #[]) (by simp [results, Try.results20, go_sem, *]) rfl ?_
 exact HE.out
set_option maxRecDepth 100000 in
set_option maxHeartbeats 8000000 in
theorem put_short4 {F : Nat → Prop} (n : Int) (s : ByteArray) (m : List Int) (y z : Dt.D) (t : List Dt.D) (hz : Rd.PutIs z) (hW : Dt.Wf z) (hFi : Rd.Fine z) (hsh : Rd.shortL 6 [y, z] = 4) (base P : Nat) (acc : List UInt8) (v0 vm vl vt : Value) (w : World) (hR : Dt.Rep F w (.mk 6 n s m [y, z] t) vm vl vt) (hF : ∀ k, F k → k < base ∧ k ≠ P)
  (hP : Rd.Pw base P w v0 w acc v0) (hPb : P < base) (hb : base ≤ w.heap.size) (hl : acc.length + ((Tx.signL 4).length + (Rd.txt z).length) ≤ 140737488355328) :
  Calls Try.prog 20 #[.pointer (some ⟨P, 0, none⟩), .agg #[.int .i64 6, .int .i64 n, .string s, vm, vl, vt]] w (Rd.PutP base P (acc ++ (Tx.signL 4 ++ Rd.txt z)) v0 w) := by
 have hR0 := hR
 obtain ⟨b1, m1, p1, b2, m2, p2, b3, m3, p3, rfl, rfl, rfl⟩ := hR.forms
 obtain ⟨w1, hw1⟩ : ∃ w1, w.alloc (.cells #[.int .i64 6, .int .i64 n, .string s, .slice b1 m1 p1, .slice b2 m2 p2, .slice b3 m3 p3] 25) = w1 := ⟨_, rfl⟩
 obtain ⟨hb1, hs1⟩ := new_below hw1
 have hX1 := Hp.new hw1
 have hq := rdQuoted_any (.mk 6 n s m [y, z] t) _ _ _ w1 (hR.below hb1)
 rw [show Rd.shortL (Dt.D.mk 6 n s m [y, z] t).k (Dt.D.mk 6 n s m [y, z] t).l = 4 from hsh] at hq
 simp only [Dt.D.k, Dt.D.n, Dt.D.s] at hq
 obtain ⟨X, hX⟩ : ∃ X, w.heap.size = X := ⟨_, rfl⟩
 rw [hX] at hX1 hs1
 obtain ⟨sg, hsg⟩ : ∃ sg, Tx.signL 4 = sg := ⟨_, rfl⟩
 have HT := psign4
 rw [hsg] at HT hl ⊢
 have hrow := ((Dt.rep_iff _ _ _ _ _ _).1 hR).2.1
 obtain ⟨al, cl, e2, -, hcs⟩ := hrow
 cases e2
 obtain ⟨g, o, hbg, hFg, hgl, hreps⟩ := hcs (by simp [Dt.D.l])
 obtain rfl := hbg
 obtain ⟨um, ul, ut, hsix, hrz⟩ := hreps.at 1 (by simp [Dt.D.l])
 obtain ⟨d1, f1, q1, d2, f2, q2, d3, f3, q3, rfl, rfl, rfl⟩ := hrz.forms
 have HSX : Hid (Dt.Six w g (o + 6) z (.slice d1 f1 q1) (.slice d2 f2 q2) (.slice d3 f3 q3)) := hsix
 have HRZ : Hid (Dt.Rep F w z (.slice d1 f1 q1) (.slice d2 f2 q2) (.slice d3 f3 q3)) := hrz
 have HFF := Lib.hid hF
 have HFG : Hid (g < base ∧ g ≠ P ∧ g < w.heap.size) := ⟨(hF g hFg).1, (hF g hFg).2, hgl⟩
 have HZ := Lib.hid hz
 have HWZ : Hid (Dt.Wf z ∧ Rd.Fine z) := ⟨hW, hFi⟩
 have HB1 := Lib.hid hb1
 have HX1 := Lib.hid hX1
 have HPW := Lib.hid hP
 have HBB : Hid (base ≤ w1.heap.size ∧ w.heap.size = X ∧ base ≤ X) := ⟨by have := hb1.size; omega, hX, by omega⟩
 have HOW : Hid (∀ k, v0.ownBlock = some k → base ≤ k ∧ k < w.heap.size) := fun k e => hP.row.lt k e
 rw [show (Dt.D.mk 6 n s m [y, z] t).l.length = 2 from rfl] at hw1 HX1 hX1 hq ⊢
 have x0 := hX1.cell 0 rfl
 have x1 := hX1.cell 1 rfl
 have x2 := hX1.cell 2 rfl
 have x3 := hX1.cell 3 rfl
 have x4 := hX1.cell 4 rfl
 have x5 := hX1.cell 5 rfl
 clear hX1 hb1 hs1 hR hR0 hP hb hsg hcs hreps hsix hrz hF hFg hgl hz hW hFi
 go_enter Try.func20, Try.ntmps20
 go_wp2_with fail
 refine hq.mono ?_
 rintro e w2 ⟨rfl, hb2⟩
 have hX2 := HX1.out.below hb2
 have hp2 := (HPW.out.below HB1.out).below hb2
 have hww : Below w.heap.size w w2 := HB1.out.trans (hb2.mono HB1.out.size)
 have hbs2 : base ≤ w2.heap.size := by have := HBB.out; have := hb2.size; omega
 have hcw := pword_any 4 0 0 ⟨#[]⟩ sg HT base P acc w2 v0 hp2.again hPb hbs2 (by omega)
 have HWW := Lib.hid hww
 have HX2 := Lib.hid hX2
 have HBS2 := Lib.hid hbs2
 clear x0 x1 x2 x3 x4 x5 hw1 hq hb2 hp2 hww hbs2
 go_wp2_with fail
 refine hcw.mono ?_
 rintro e w3 ⟨rfl, v3, hp3⟩
 have hkw : Keep (fun k => k = P ∨ v0.ownBlock = some k) w w3 := (keep_of_below HWW.out).trans hp3.kp
 have hX3 := HX2.out.keep hp3.kp (fun e => e.elim (fun e => by have := HBB.out; omega) (fun e => by have := HOW.out X e; have := HBB.out; omega))
 have hnF : ∀ k, F k → k < w.heap.size → ¬ (k = P ∨ v0.ownBlock = some k) := fun k hk _ e => e.elim (HFF.out k hk).2 (fun e => by have := (HOW.out k e).1; have := (HFF.out k hk).1; omega)
 have hs3 := HSX.out.keep hkw HFG.out.2.2 (fun e => e.elim HFG.out.2.1 (fun e => by have := (HOW.out g e).1; have := HFG.out.1; omega))
 have hr3 := Dt.Rep.keep hkw hnF z HRZ.out
 have hcz := HZ.out F base P (acc ++ sg) v3 _ _ _ w3 HWZ.out.1 HWZ.out.2 hr3 HFF.out hp3.again hPb (by have := HBS2.out; have := hp3.kp.size; omega) (by rw [List.length_append]; omega)
 have HP3 := Lib.hid hp3
 have x4 := hX3.cell 4 rfl
 obtain ⟨y0, y1, y2, y3, y4, y5⟩ := hs3
 clear hcw hp3 hkw hX3 hnF hr3
 go_wp2_with fail
 refine hcz.mono ?_
 rintro e w4 ⟨rfl, v4, hp4⟩
 have HE : Hid (Rd.PutP base P (acc ++ (sg ++ Rd.txt z)) v0 w (.returned (.tuple #[])) w4) := ⟨rfl, v4, by rw [← List.append_assoc]; exact Rd.Pw.from HWW.out (HP3.out.trans hp4)⟩
 clear hcz hp4 x4 y0 y1 y2 y3 y4 y5
 go_wp2
 refine bodyPost_ret (v := .tuple #[]) (by simp [results, Try.results20, go_sem, *]) rfl ?_
 exact HE.out
set_option maxRecDepth 100000 in
set_option maxHeartbeats 8000000 in
theorem put_short5 {F : Nat → Prop} (n : Int) (s : ByteArray) (m : List Int) (y z : Dt.D) (t : List Dt.D) (hz : Rd.PutIs z) (hW : Dt.Wf z) (hFi : Rd.Fine z) (hsh : Rd.shortL 6 [y, z] = 5) (base P : Nat) (acc : List UInt8) (v0 vm vl vt : Value) (w : World) (hR : Dt.Rep F w (.mk 6 n s m [y, z] t) vm vl vt) (hF : ∀ k, F k → k < base ∧ k ≠ P)
  (hP : Rd.Pw base P w v0 w acc v0) (hPb : P < base) (hb : base ≤ w.heap.size) (hl : acc.length + ((Tx.signL 5).length + (Rd.txt z).length) ≤ 140737488355328) :
  Calls Try.prog 20 #[.pointer (some ⟨P, 0, none⟩), .agg #[.int .i64 6, .int .i64 n, .string s, vm, vl, vt]] w (Rd.PutP base P (acc ++ (Tx.signL 5 ++ Rd.txt z)) v0 w) := by
 have hR0 := hR
 obtain ⟨b1, m1, p1, b2, m2, p2, b3, m3, p3, rfl, rfl, rfl⟩ := hR.forms
 obtain ⟨w1, hw1⟩ : ∃ w1, w.alloc (.cells #[.int .i64 6, .int .i64 n, .string s, .slice b1 m1 p1, .slice b2 m2 p2, .slice b3 m3 p3] 25) = w1 := ⟨_, rfl⟩
 obtain ⟨hb1, hs1⟩ := new_below hw1
 have hX1 := Hp.new hw1
 have hq := rdQuoted_any (.mk 6 n s m [y, z] t) _ _ _ w1 (hR.below hb1)
 rw [show Rd.shortL (Dt.D.mk 6 n s m [y, z] t).k (Dt.D.mk 6 n s m [y, z] t).l = 5 from hsh] at hq
 simp only [Dt.D.k, Dt.D.n, Dt.D.s] at hq
 obtain ⟨X, hX⟩ : ∃ X, w.heap.size = X := ⟨_, rfl⟩
 rw [hX] at hX1 hs1
 obtain ⟨sg, hsg⟩ : ∃ sg, Tx.signL 5 = sg := ⟨_, rfl⟩
 have HT := psign5
 rw [hsg] at HT hl ⊢
 have hrow := ((Dt.rep_iff _ _ _ _ _ _).1 hR).2.1
 obtain ⟨al, cl, e2, -, hcs⟩ := hrow
 cases e2
 obtain ⟨g, o, hbg, hFg, hgl, hreps⟩ := hcs (by simp [Dt.D.l])
 obtain rfl := hbg
 obtain ⟨um, ul, ut, hsix, hrz⟩ := hreps.at 1 (by simp [Dt.D.l])
 obtain ⟨d1, f1, q1, d2, f2, q2, d3, f3, q3, rfl, rfl, rfl⟩ := hrz.forms
 have HSX : Hid (Dt.Six w g (o + 6) z (.slice d1 f1 q1) (.slice d2 f2 q2) (.slice d3 f3 q3)) := hsix
 have HRZ : Hid (Dt.Rep F w z (.slice d1 f1 q1) (.slice d2 f2 q2) (.slice d3 f3 q3)) := hrz
 have HFF := Lib.hid hF
 have HFG : Hid (g < base ∧ g ≠ P ∧ g < w.heap.size) := ⟨(hF g hFg).1, (hF g hFg).2, hgl⟩
 have HZ := Lib.hid hz
 have HWZ : Hid (Dt.Wf z ∧ Rd.Fine z) := ⟨hW, hFi⟩
 have HB1 := Lib.hid hb1
 have HX1 := Lib.hid hX1
 have HPW := Lib.hid hP
 have HBB : Hid (base ≤ w1.heap.size ∧ w.heap.size = X ∧ base ≤ X) := ⟨by have := hb1.size; omega, hX, by omega⟩
 have HOW : Hid (∀ k, v0.ownBlock = some k → base ≤ k ∧ k < w.heap.size) := fun k e => hP.row.lt k e
 rw [show (Dt.D.mk 6 n s m [y, z] t).l.length = 2 from rfl] at hw1 HX1 hX1 hq ⊢
 have x0 := hX1.cell 0 rfl
 have x1 := hX1.cell 1 rfl
 have x2 := hX1.cell 2 rfl
 have x3 := hX1.cell 3 rfl
 have x4 := hX1.cell 4 rfl
 have x5 := hX1.cell 5 rfl
 clear hX1 hb1 hs1 hR hR0 hP hb hsg hcs hreps hsix hrz hF hFg hgl hz hW hFi
 go_enter Try.func20, Try.ntmps20
 go_wp2_with fail
 refine hq.mono ?_
 rintro e w2 ⟨rfl, hb2⟩
 have hX2 := HX1.out.below hb2
 have hp2 := (HPW.out.below HB1.out).below hb2
 have hww : Below w.heap.size w w2 := HB1.out.trans (hb2.mono HB1.out.size)
 have hbs2 : base ≤ w2.heap.size := by have := HBB.out; have := hb2.size; omega
 have hcw := pword_any 5 0 0 ⟨#[]⟩ sg HT base P acc w2 v0 hp2.again hPb hbs2 (by omega)
 have HWW := Lib.hid hww
 have HX2 := Lib.hid hX2
 have HBS2 := Lib.hid hbs2
 clear x0 x1 x2 x3 x4 x5 hw1 hq hb2 hp2 hww hbs2
 go_wp2_with fail
 refine hcw.mono ?_
 rintro e w3 ⟨rfl, v3, hp3⟩
 have hkw : Keep (fun k => k = P ∨ v0.ownBlock = some k) w w3 := (keep_of_below HWW.out).trans hp3.kp
 have hX3 := HX2.out.keep hp3.kp (fun e => e.elim (fun e => by have := HBB.out; omega) (fun e => by have := HOW.out X e; have := HBB.out; omega))
 have hnF : ∀ k, F k → k < w.heap.size → ¬ (k = P ∨ v0.ownBlock = some k) := fun k hk _ e => e.elim (HFF.out k hk).2 (fun e => by have := (HOW.out k e).1; have := (HFF.out k hk).1; omega)
 have hs3 := HSX.out.keep hkw HFG.out.2.2 (fun e => e.elim HFG.out.2.1 (fun e => by have := (HOW.out g e).1; have := HFG.out.1; omega))
 have hr3 := Dt.Rep.keep hkw hnF z HRZ.out
 have hcz := HZ.out F base P (acc ++ sg) v3 _ _ _ w3 HWZ.out.1 HWZ.out.2 hr3 HFF.out hp3.again hPb (by have := HBS2.out; have := hp3.kp.size; omega) (by rw [List.length_append]; omega)
 have HP3 := Lib.hid hp3
 have x4 := hX3.cell 4 rfl
 obtain ⟨y0, y1, y2, y3, y4, y5⟩ := hs3
 clear hcw hp3 hkw hX3 hnF hr3
 go_wp2_with fail
 refine hcz.mono ?_
 rintro e w4 ⟨rfl, v4, hp4⟩
 have HE : Hid (Rd.PutP base P (acc ++ (sg ++ Rd.txt z)) v0 w (.returned (.tuple #[])) w4) := ⟨rfl, v4, by rw [← List.append_assoc]; exact Rd.Pw.from HWW.out (HP3.out.trans hp4)⟩
 clear hcz hp4 x4 y0 y1 y2 y3 y4 y5
 go_wp2
 refine bodyPost_ret (v := .tuple #[]) (by simp [results, Try.results20, go_sem, *]) rfl ?_
 exact HE.out
set_option maxRecDepth 100000 in
set_option maxHeartbeats 8000000 in
theorem put_short6 {F : Nat → Prop} (n : Int) (s : ByteArray) (m : List Int) (y z : Dt.D) (t : List Dt.D) (hz : Rd.PutIs z) (hW : Dt.Wf z) (hFi : Rd.Fine z) (hsh : Rd.shortL 6 [y, z] = 6) (base P : Nat) (acc : List UInt8) (v0 vm vl vt : Value) (w : World) (hR : Dt.Rep F w (.mk 6 n s m [y, z] t) vm vl vt) (hF : ∀ k, F k → k < base ∧ k ≠ P)
  (hP : Rd.Pw base P w v0 w acc v0) (hPb : P < base) (hb : base ≤ w.heap.size) (hl : acc.length + ((Tx.signL 6).length + (Rd.txt z).length) ≤ 140737488355328) :
  Calls Try.prog 20 #[.pointer (some ⟨P, 0, none⟩), .agg #[.int .i64 6, .int .i64 n, .string s, vm, vl, vt]] w (Rd.PutP base P (acc ++ (Tx.signL 6 ++ Rd.txt z)) v0 w) := by
 have hR0 := hR
 obtain ⟨b1, m1, p1, b2, m2, p2, b3, m3, p3, rfl, rfl, rfl⟩ := hR.forms
 obtain ⟨w1, hw1⟩ : ∃ w1, w.alloc (.cells #[.int .i64 6, .int .i64 n, .string s, .slice b1 m1 p1, .slice b2 m2 p2, .slice b3 m3 p3] 25) = w1 := ⟨_, rfl⟩
 obtain ⟨hb1, hs1⟩ := new_below hw1
 have hX1 := Hp.new hw1
 have hq := rdQuoted_any (.mk 6 n s m [y, z] t) _ _ _ w1 (hR.below hb1)
 rw [show Rd.shortL (Dt.D.mk 6 n s m [y, z] t).k (Dt.D.mk 6 n s m [y, z] t).l = 6 from hsh] at hq
 simp only [Dt.D.k, Dt.D.n, Dt.D.s] at hq
 obtain ⟨X, hX⟩ : ∃ X, w.heap.size = X := ⟨_, rfl⟩
 rw [hX] at hX1 hs1
 obtain ⟨sg, hsg⟩ : ∃ sg, Tx.signL 6 = sg := ⟨_, rfl⟩
 have HT := psign6
 rw [hsg] at HT hl ⊢
 have hrow := ((Dt.rep_iff _ _ _ _ _ _).1 hR).2.1
 obtain ⟨al, cl, e2, -, hcs⟩ := hrow
 cases e2
 obtain ⟨g, o, hbg, hFg, hgl, hreps⟩ := hcs (by simp [Dt.D.l])
 obtain rfl := hbg
 obtain ⟨um, ul, ut, hsix, hrz⟩ := hreps.at 1 (by simp [Dt.D.l])
 obtain ⟨d1, f1, q1, d2, f2, q2, d3, f3, q3, rfl, rfl, rfl⟩ := hrz.forms
 have HSX : Hid (Dt.Six w g (o + 6) z (.slice d1 f1 q1) (.slice d2 f2 q2) (.slice d3 f3 q3)) := hsix
 have HRZ : Hid (Dt.Rep F w z (.slice d1 f1 q1) (.slice d2 f2 q2) (.slice d3 f3 q3)) := hrz
 have HFF := Lib.hid hF
 have HFG : Hid (g < base ∧ g ≠ P ∧ g < w.heap.size) := ⟨(hF g hFg).1, (hF g hFg).2, hgl⟩
 have HZ := Lib.hid hz
 have HWZ : Hid (Dt.Wf z ∧ Rd.Fine z) := ⟨hW, hFi⟩
 have HB1 := Lib.hid hb1
 have HX1 := Lib.hid hX1
 have HPW := Lib.hid hP
 have HBB : Hid (base ≤ w1.heap.size ∧ w.heap.size = X ∧ base ≤ X) := ⟨by have := hb1.size; omega, hX, by omega⟩
 have HOW : Hid (∀ k, v0.ownBlock = some k → base ≤ k ∧ k < w.heap.size) := fun k e => hP.row.lt k e
 rw [show (Dt.D.mk 6 n s m [y, z] t).l.length = 2 from rfl] at hw1 HX1 hX1 hq ⊢
 have x0 := hX1.cell 0 rfl
 have x1 := hX1.cell 1 rfl
 have x2 := hX1.cell 2 rfl
 have x3 := hX1.cell 3 rfl
 have x4 := hX1.cell 4 rfl
 have x5 := hX1.cell 5 rfl
 clear hX1 hb1 hs1 hR hR0 hP hb hsg hcs hreps hsix hrz hF hFg hgl hz hW hFi
 go_enter Try.func20, Try.ntmps20
 go_wp2_with fail
 refine hq.mono ?_
 rintro e w2 ⟨rfl, hb2⟩
 have hX2 := HX1.out.below hb2
 have hp2 := (HPW.out.below HB1.out).below hb2
 have hww : Below w.heap.size w w2 := HB1.out.trans (hb2.mono HB1.out.size)
 have hbs2 : base ≤ w2.heap.size := by have := HBB.out; have := hb2.size; omega
 have hcw := pword_any 6 0 0 ⟨#[]⟩ sg HT base P acc w2 v0 hp2.again hPb hbs2 (by omega)
 have HWW := Lib.hid hww
 have HX2 := Lib.hid hX2
 have HBS2 := Lib.hid hbs2
 clear x0 x1 x2 x3 x4 x5 hw1 hq hb2 hp2 hww hbs2
 go_wp2_with fail
 refine hcw.mono ?_
 rintro e w3 ⟨rfl, v3, hp3⟩
 have hkw : Keep (fun k => k = P ∨ v0.ownBlock = some k) w w3 := (keep_of_below HWW.out).trans hp3.kp
 have hX3 := HX2.out.keep hp3.kp (fun e => e.elim (fun e => by have := HBB.out; omega) (fun e => by have := HOW.out X e; have := HBB.out; omega))
 have hnF : ∀ k, F k → k < w.heap.size → ¬ (k = P ∨ v0.ownBlock = some k) := fun k hk _ e => e.elim (HFF.out k hk).2 (fun e => by have := (HOW.out k e).1; have := (HFF.out k hk).1; omega)
 have hs3 := HSX.out.keep hkw HFG.out.2.2 (fun e => e.elim HFG.out.2.1 (fun e => by have := (HOW.out g e).1; have := HFG.out.1; omega))
 have hr3 := Dt.Rep.keep hkw hnF z HRZ.out
 have hcz := HZ.out F base P (acc ++ sg) v3 _ _ _ w3 HWZ.out.1 HWZ.out.2 hr3 HFF.out hp3.again hPb (by have := HBS2.out; have := hp3.kp.size; omega) (by rw [List.length_append]; omega)
 have HP3 := Lib.hid hp3
 have x4 := hX3.cell 4 rfl
 obtain ⟨y0, y1, y2, y3, y4, y5⟩ := hs3
 clear hcw hp3 hkw hX3 hnF hr3
 go_wp2_with fail
 refine hcz.mono ?_
 rintro e w4 ⟨rfl, v4, hp4⟩
 have HE : Hid (Rd.PutP base P (acc ++ (sg ++ Rd.txt z)) v0 w (.returned (.tuple #[])) w4) := ⟨rfl, v4, by rw [← List.append_assoc]; exact Rd.Pw.from HWW.out (HP3.out.trans hp4)⟩
 clear hcz hp4 x4 y0 y1 y2 y3 y4 y5
 go_wp2
 refine bodyPost_ret (v := .tuple #[]) (by simp [results, Try.results20, go_sem, *]) rfl ?_
 exact HE.out
set_option maxRecDepth 100000 in
set_option maxHeartbeats 8000000 in
theorem put_short7 {F : Nat → Prop} (n : Int) (s : ByteArray) (m : List Int) (y z : Dt.D) (t : List Dt.D) (hz : Rd.PutIs z) (hW : Dt.Wf z) (hFi : Rd.Fine z) (hsh : Rd.shortL 6 [y, z] = 7) (base P : Nat) (acc : List UInt8) (v0 vm vl vt : Value) (w : World) (hR : Dt.Rep F w (.mk 6 n s m [y, z] t) vm vl vt) (hF : ∀ k, F k → k < base ∧ k ≠ P)
  (hP : Rd.Pw base P w v0 w acc v0) (hPb : P < base) (hb : base ≤ w.heap.size) (hl : acc.length + ((Tx.signL 7).length + (Rd.txt z).length) ≤ 140737488355328) :
  Calls Try.prog 20 #[.pointer (some ⟨P, 0, none⟩), .agg #[.int .i64 6, .int .i64 n, .string s, vm, vl, vt]] w (Rd.PutP base P (acc ++ (Tx.signL 7 ++ Rd.txt z)) v0 w) := by
 have hR0 := hR
 obtain ⟨b1, m1, p1, b2, m2, p2, b3, m3, p3, rfl, rfl, rfl⟩ := hR.forms
 obtain ⟨w1, hw1⟩ : ∃ w1, w.alloc (.cells #[.int .i64 6, .int .i64 n, .string s, .slice b1 m1 p1, .slice b2 m2 p2, .slice b3 m3 p3] 25) = w1 := ⟨_, rfl⟩
 obtain ⟨hb1, hs1⟩ := new_below hw1
 have hX1 := Hp.new hw1
 have hq := rdQuoted_any (.mk 6 n s m [y, z] t) _ _ _ w1 (hR.below hb1)
 rw [show Rd.shortL (Dt.D.mk 6 n s m [y, z] t).k (Dt.D.mk 6 n s m [y, z] t).l = 7 from hsh] at hq
 simp only [Dt.D.k, Dt.D.n, Dt.D.s] at hq
 obtain ⟨X, hX⟩ : ∃ X, w.heap.size = X := ⟨_, rfl⟩
 rw [hX] at hX1 hs1
 obtain ⟨sg, hsg⟩ : ∃ sg, Tx.signL 7 = sg := ⟨_, rfl⟩
 have HT := psign7
 rw [hsg] at HT hl ⊢
 have hrow := ((Dt.rep_iff _ _ _ _ _ _).1 hR).2.1
 obtain ⟨al, cl, e2, -, hcs⟩ := hrow
 cases e2
 obtain ⟨g, o, hbg, hFg, hgl, hreps⟩ := hcs (by simp [Dt.D.l])
 obtain rfl := hbg
 obtain ⟨um, ul, ut, hsix, hrz⟩ := hreps.at 1 (by simp [Dt.D.l])
 obtain ⟨d1, f1, q1, d2, f2, q2, d3, f3, q3, rfl, rfl, rfl⟩ := hrz.forms
 have HSX : Hid (Dt.Six w g (o + 6) z (.slice d1 f1 q1) (.slice d2 f2 q2) (.slice d3 f3 q3)) := hsix
 have HRZ : Hid (Dt.Rep F w z (.slice d1 f1 q1) (.slice d2 f2 q2) (.slice d3 f3 q3)) := hrz
 have HFF := Lib.hid hF
 have HFG : Hid (g < base ∧ g ≠ P ∧ g < w.heap.size) := ⟨(hF g hFg).1, (hF g hFg).2, hgl⟩
 have HZ := Lib.hid hz
 have HWZ : Hid (Dt.Wf z ∧ Rd.Fine z) := ⟨hW, hFi⟩
 have HB1 := Lib.hid hb1
 have HX1 := Lib.hid hX1
 have HPW := Lib.hid hP
 have HBB : Hid (base ≤ w1.heap.size ∧ w.heap.size = X ∧ base ≤ X) := ⟨by have := hb1.size; omega, hX, by omega⟩
 have HOW : Hid (∀ k, v0.ownBlock = some k → base ≤ k ∧ k < w.heap.size) := fun k e => hP.row.lt k e
 rw [show (Dt.D.mk 6 n s m [y, z] t).l.length = 2 from rfl] at hw1 HX1 hX1 hq ⊢
 have x0 := hX1.cell 0 rfl
 have x1 := hX1.cell 1 rfl
 have x2 := hX1.cell 2 rfl
 have x3 := hX1.cell 3 rfl
 have x4 := hX1.cell 4 rfl
 have x5 := hX1.cell 5 rfl
 clear hX1 hb1 hs1 hR hR0 hP hb hsg hcs hreps hsix hrz hF hFg hgl hz hW hFi
 go_enter Try.func20, Try.ntmps20
 go_wp2_with fail
 refine hq.mono ?_
 rintro e w2 ⟨rfl, hb2⟩
 have hX2 := HX1.out.below hb2
 have hp2 := (HPW.out.below HB1.out).below hb2
 have hww : Below w.heap.size w w2 := HB1.out.trans (hb2.mono HB1.out.size)
 have hbs2 : base ≤ w2.heap.size := by have := HBB.out; have := hb2.size; omega
 have hcw := pword_any 7 0 0 ⟨#[]⟩ sg HT base P acc w2 v0 hp2.again hPb hbs2 (by omega)
 have HWW := Lib.hid hww
 have HX2 := Lib.hid hX2
 have HBS2 := Lib.hid hbs2
 clear x0 x1 x2 x3 x4 x5 hw1 hq hb2 hp2 hww hbs2
 go_wp2_with fail
 refine hcw.mono ?_
 rintro e w3 ⟨rfl, v3, hp3⟩
 have hkw : Keep (fun k => k = P ∨ v0.ownBlock = some k) w w3 := (keep_of_below HWW.out).trans hp3.kp
 have hX3 := HX2.out.keep hp3.kp (fun e => e.elim (fun e => by have := HBB.out; omega) (fun e => by have := HOW.out X e; have := HBB.out; omega))
 have hnF : ∀ k, F k → k < w.heap.size → ¬ (k = P ∨ v0.ownBlock = some k) := fun k hk _ e => e.elim (HFF.out k hk).2 (fun e => by have := (HOW.out k e).1; have := (HFF.out k hk).1; omega)
 have hs3 := HSX.out.keep hkw HFG.out.2.2 (fun e => e.elim HFG.out.2.1 (fun e => by have := (HOW.out g e).1; have := HFG.out.1; omega))
 have hr3 := Dt.Rep.keep hkw hnF z HRZ.out
 have hcz := HZ.out F base P (acc ++ sg) v3 _ _ _ w3 HWZ.out.1 HWZ.out.2 hr3 HFF.out hp3.again hPb (by have := HBS2.out; have := hp3.kp.size; omega) (by rw [List.length_append]; omega)
 have HP3 := Lib.hid hp3
 have x4 := hX3.cell 4 rfl
 obtain ⟨y0, y1, y2, y3, y4, y5⟩ := hs3
 clear hcw hp3 hkw hX3 hnF hr3
 go_wp2_with fail
 refine hcz.mono ?_
 rintro e w4 ⟨rfl, v4, hp4⟩
 have HE : Hid (Rd.PutP base P (acc ++ (sg ++ Rd.txt z)) v0 w (.returned (.tuple #[])) w4) := ⟨rfl, v4, by rw [← List.append_assoc]; exact Rd.Pw.from HWW.out (HP3.out.trans hp4)⟩
 clear hcz hp4 x4 y0 y1 y2 y3 y4 y5
 go_wp2
 refine bodyPost_ret (v := .tuple #[]) (by simp [results, Try.results20, go_sem, *]) rfl ?_
 exact HE.out
set_option maxRecDepth 100000 in
set_option maxHeartbeats 16000000 in
theorem put_list6 {F : Nat → Prop} (n : Int) (s : ByteArray) (m : List Int) (l t : List Dt.D) (hil : ∀ x ∈ l, Rd.PutIs x ∧ Dt.Wf x ∧ Rd.Fine x) (hit : ∀ x ∈ t, Rd.PutIs x ∧ Dt.Wf x ∧ Rd.Fine x) (hsh : Rd.shortL 6 l = 0) (hln : l.length ≤ 140737488355328 ∧ t.length ≤ 140737488355328) (base P : Nat) (acc : List UInt8) (v0 vm vl vt : Value) (w : World) (hR : Dt.Rep F w (.mk 6 n s m l t) vm vl vt) (hF : ∀ k, F k → k < base ∧ k ≠ P)
  (hP : Rd.Pw base P w v0 w acc v0) (hPb : P < base) (hb : base ≤ w.heap.size) (hl : acc.length + ((Tx.signL 1 ++ Rd.txts l ++ Rd.txtt t ++ [41]).length) ≤ 140737488355328) :
  Calls Try.prog 20 #[.pointer (some ⟨P, 0, none⟩), .agg #[.int .i64 6, .int .i64 n, .string s, vm, vl, vt]] w (Rd.PutP base P (acc ++ (Tx.signL 1 ++ Rd.txts l ++ Rd.txtt t ++ [41])) v0 w) := by
 obtain ⟨b1, m1, p1, b2, m2, p2, b3, m3, p3, rfl, rfl, rfl⟩ := hR.forms
 obtain ⟨w1, hw1⟩ : ∃ w1, w.alloc (.cells #[.int .i64 6, .int .i64 n, .string s, .slice b1 m1 p1, .slice b2 m2 p2, .slice b3 m3 p3] 25) = w1 := ⟨_, rfl⟩
 obtain ⟨hb1, hs1⟩ := new_below hw1
 have hX1 := Hp.new hw1
 have hq := rdQuoted_any (.mk 6 n s m l t) _ _ _ w1 (hR.below hb1)
 rw [show Rd.shortL (Dt.D.mk 6 n s m l t).k (Dt.D.mk 6 n s m l t).l = 0 from hsh] at hq
 simp only [Dt.D.k, Dt.D.n, Dt.D.s] at hq
 obtain ⟨X, hX⟩ : ∃ X, w.heap.size = X := ⟨_, rfl⟩
 rw [hX] at hX1 hs1
 obtain ⟨sg, hsg⟩ : ∃ sg, Tx.signL 1 = sg := ⟨_, rfl⟩
 have HT := psign1
 rw [hsg] at HT hl ⊢
 simp only [List.length_append, List.length_cons, List.length_nil] at hl
 have HHL := Lib.hid hl
 obtain ⟨-, ⟨al, cl, e2, hcl, hcs⟩, ⟨at_, ct, e3, hct, hts⟩⟩ := (Dt.rep_iff _ _ _ _ _ _).1 hR
 cases e2
 cases e3
 rw [show (Dt.D.mk 6 n s m l t).l.length = l.length from rfl, show (Dt.D.mk 6 n s m l t).t.length = t.length from rfl] at hw1 hX1 hq ⊢
 obtain ⟨N, hN⟩ : ∃ N, l.length = N := ⟨_, rfl⟩
 obtain ⟨T, hT⟩ : ∃ T, t.length = T := ⟨_, rfl⟩
 rw [hN, hT] at hw1 hX1 hq ⊢
 obtain ⟨i0, hi, hz0, hz1, hz2⟩ := info_parts Cd.infoB
 have HI0 := Lib.hid hi
 have HZ0 := Lib.hid hz0
 have HZ1 := Lib.hid hz1
 have HZ2 := Lib.hid hz2
 have HCS := Lib.hid hcs
 have HTS := Lib.hid hts
 have HIL := Lib.hid hil
 have HIT := Lib.hid hit
 have HNT : Hid (l.length = N ∧ t.length = T ∧ N ≤ 140737488355328 ∧ T ≤ 140737488355328) := ⟨hN, hT, by omega, by omega⟩
 have HFF := Lib.hid hF
 have HB1 := Lib.hid hb1
 have HX1 := Lib.hid hX1
 have HP1 : Hid (Rd.Pw base P w1 v0 w1 acc v0) := (hP.below hb1).again
 have HBB : Hid (base ≤ w1.heap.size ∧ w.heap.size = X ∧ base ≤ X ∧ w1.heap.size = X + 1) := ⟨by have := hb1.size; omega, hX, by omega, hs1⟩
 have HOW : Hid (∀ k, v0.ownBlock = some k → base ≤ k ∧ k < w.heap.size) := fun k e => hP.row.lt k e
 have HNF : Hid (∀ W, Keep (fun k => k = P ∨ v0.ownBlock = some k) w1 W → Hp W X #[.int .i64 6, .int .i64 n, .string s, .slice b1 m1 p1, .slice b2 N p2, .slice b3 T p3] 25 ∧ (∀ (g o : Nat) (x : Dt.D) (um ul ut : Value), F g → g < w.heap.size → Dt.Six w g o x um ul ut → Dt.Six W g o x um ul ut) ∧ (∀ (x : Dt.D) (um ul ut : Value), Dt.Rep F w x um ul ut → Dt.Rep F W x um ul ut)) := fun W hk => by
  have hkw : Keep (fun k => k = P ∨ v0.ownBlock = some k) w W := (keep_of_below hb1).trans hk
  refine ⟨hX1.keep hk (fun e => e.elim (fun e => by omega) (fun e => by have := hP.row.lt X e; omega)), fun g o x um ul ut hg hgl h => h.keep hkw hgl (fun e => e.elim (hF g hg).2 (fun e => by have := (hP.row.lt g e).1; have := (hF g hg).1; omega)), fun x um ul ut h => Dt.Rep.keep hkw (fun k hk _ e => e.elim (hF k hk).2 (fun e => by have := (hP.row.lt k e).1; have := (hF k hk).1; omega)) x h⟩
 have x0 := hX1.cell 0 rfl
 have x1 := hX1.cell 1 rfl
 have x2 := hX1.cell 2 rfl
 have x3 := hX1.cell 3 rfl
 have x4 := hX1.cell 4 rfl
 have x5 := hX1.cell 5 rfl
 clear hX1 hb1 hs1 hR hP hb hsg hcs hts hF hil hit hln hl hi hz0 hz1 hz2 hcl hct hN hT
 go_enter Try.func20, Try.ntmps20
 go_wp2_with fail
 refine hq.mono ?_
 rintro e w2 ⟨rfl, hb2⟩
 have hp2 := HP1.out.below hb2
 obtain ⟨hX2, -, -⟩ := HNF.out w2 hp2.kp
 have hcw := pword_any 1 0 0 ⟨#[]⟩ sg HT base P acc w2 v0 hp2.again hPb (by have := HBB.out; have := hb2.size; omega) (by have := HHL.out; omega)
 have HP2 := Lib.hid hp2
 clear x0 x1 x2 x3 x4 x5 hw1 hq hb2 hp2
 have x0 := hX2.cell 0 rfl
 have x1 := hX2.cell 1 rfl
 have x2 := hX2.cell 2 rfl
 have x3 := hX2.cell 3 rfl
 have x4 := hX2.cell 4 rfl
 have x5 := hX2.cell 5 rfl
 clear hX2
 go_wp2_with fail
 refine hcw.mono ?_
 rintro e w3 ⟨rfl, v3, hp3⟩
 have hp3' := HP2.out.trans hp3
 obtain ⟨hX3, -, -⟩ := HNF.out w3 hp3'.kp
 have HP3 : Hid (Rd.Pw base P w1 v0 w3 (acc ++ sg ++ Rd.txts (l.take 0)) v3) := by
  show Rd.Pw _ _ _ _ _ _ _
  rw [List.take_zero, Rd.txts, List.append_nil]
  exact hp3'
 clear x0 x1 x2 x3 x4 x5 hcw hp3 hp3'
 have x4 := hX3.cell 4 rfl
 clear hX3
 go_wp2
 go_loopw [34] (fun vi wr => ∃ (j : Nat) (vj : Value), vi = .int .i64 j ∧ j ≤ N ∧ Hid (Rd.Pw base P w1 v0 wr (acc ++ sg ++ Rd.txts (l.take j)) vj)) (fun vi _ => N - (intOf vi).toNat)
 case atStart => exact ⟨0, v3, rfl, by omega, HP3⟩
 case round =>
  clear HP3 HP2
  obtain ⟨j, vj, rfl, hj, HPJ⟩ := hrel
  by_cases hlt : j < N
  ·have hlti : (j : Int) < (N : Int) := by omega
   have HJW : Hid (wrap64 ((j : Int) + 1) = (j : Int) + 1) := by have := HNT.out; show _ = _; unfold wrap64; omega
   have hjl : j < l.length := by have := HNT.out; omega
   obtain ⟨g, o, rfl, hFg, hgl, hreps⟩ := HCS.out (by intro e; have e' : l = [] := e; rw [e'] at hjl; exact absurd hjl (by simp))
   obtain ⟨um, ul, ut, hsix, hrz⟩ := hreps.at j hjl
   obtain ⟨d1, f1, q1, d2, f2, q2, d3, f3, q3, rfl, rfl, rfl⟩ := hrz.forms
   obtain ⟨z, hz⟩ : ∃ z, l[j] = z := ⟨_, rfl⟩
   have HTK : Hid (Rd.txts (l.take (j + 1)) = Rd.txts (l.take j) ++ (if j = 0 then [] else [32]) ++ Rd.txt z) := by show _ = _; rw [Rd.txts_take l j hjl, hz]
   have HIZ := Lib.hid (HIL.out l[j] (List.getElem_mem hjl))
   have hrz' : Dt.Rep F w z (.slice d1 f1 q1) (.slice d2 f2 q2) (.slice d3 f3 q3) := by rw [← hz]; exact hrz
   have hsix' : Dt.Six w g (o + j * 6) z (.slice d1 f1 q1) (.slice d2 f2 q2) (.slice d3 f3 q3) := by rw [← hz]; exact hsix
   rw [hz] at HIZ
   have HLE : Hid ((Rd.txts (l.take (j + 1))).length ≤ (Rd.txts l).length) := Rd.txts_le l (j + 1)
   have HRZ := Lib.hid hrz'
   obtain ⟨-, hsx, -⟩ := HNF.out wr HPJ.out.kp
   obtain ⟨y0, y1, y2, y3, y4, y5⟩ := hsx g (o + j * 6) z _ _ _ hFg hgl hsix'
   obtain ⟨w4, hw4⟩ : ∃ w4, wr.alloc (.cells #[.int .i64 z.k, .int .i64 z.n, .string z.s, .slice d1 f1 q1, .slice d2 f2 q2, .slice d3 f3 q3] 25) = w4 := ⟨_, rfl⟩
   obtain ⟨hb4, hs4⟩ := new_below hw4
   have hZ4 := Hp.new hw4
   have HZ4 := Lib.hid hZ4
   have hp4 := HPJ.out.below hb4
   have HP4 := Lib.hid hp4
   have HZN : Hid (Hp w4 wr.heap.size #[.int .i64 z.k, .int .i64 z.n, .string z.s, .slice d1 f1 q1, .slice d2 f2 q2, .slice d3 f3 q3] 25 ∧ (∀ k, vj.ownBlock = some k → base ≤ k ∧ k < wr.heap.size) ∧ w1.heap.size ≤ wr.heap.size) := ⟨hZ4, fun k e => HPJ.out.row.lt k e, HPJ.out.kp.size⟩
   obtain ⟨ZB, hZB⟩ : ∃ ZB, wr.heap.size = ZB := ⟨_, rfl⟩
   rw [hZB] at HZN HZ4 hZ4
   have hbs4 : base ≤ w4.heap.size := by have := HZN.out.2.2; have := HBB.out; omega
   have HBS4 := Lib.hid hbs4
   clear hsix hrz hrz' hsix' hreps hsx hz hb4 hs4 hjl
   by_cases hj0 : j = 0
   ·subst hj0
    have hc := HIZ.out.1 F base P (acc ++ sg ++ Rd.txts (l.take 0)) vj _ _ _ w4 HIZ.out.2.1 HIZ.out.2.2 ((HNF.out w4 HP4.out.kp).2.2 z _ _ _ HRZ.out) HFF.out hp4.again hPb hbs4 (by have h1 := HTK.out; have h2 := HLE.out; have h3 := HHL.out; rw [h1] at h2; simp only [List.length_append] at h2 ⊢; omega)
    have z0 := hZ4.cell 0 rfl
    have z1 := hZ4.cell 1 rfl
    have z2 := hZ4.cell 2 rfl
    have z3 := hZ4.cell 3 rfl
    have z4 := hZ4.cell 4 rfl
    have z5 := hZ4.cell 5 rfl
    simp only [Nat.zero_mul, Nat.add_zero] at y0 y1 y2 y3 y4 y5
    clear hZ4 hp4 hbs4
    go_wp2_with fail
    refine hc.mono ?_
    rintro e w5 ⟨rfl, v5, hp5⟩
    have HN5 : Hid (Rd.Pw base P w1 v0 w5 (acc ++ sg ++ Rd.txts (l.take 1)) v5) := by
     have := HP4.out.trans hp5
     have h1 := HTK.out
     simp only [Nat.zero_add, if_pos] at h1
     show Rd.Pw _ _ _ _ _ _ _
     rw [h1, List.append_nil, ← List.append_assoc]
     exact this
    clear hc hp5 z0 z1 z2 z3 z4 z5 y0 y1 y2 y3 y4 y5 hw4
    go_wp2
    go_roundw
    case rel => exact ⟨1, v5, by simp, by omega, HN5⟩
    case measure => simp [intOf]; omega
   ·have hji : (0 : Int) < (j : Int) := by omega
    have hrow4 := HP4.out.row
    obtain ⟨aj, cj, hvj⟩ := Dt.row_form hrow4
    subst hvj
    have hp40 := HP4.out.hp
    obtain ⟨w5, hw5⟩ : ∃ w5, w4.alloc (.cells #[.int .u8 32] 5) = w5 := ⟨_, rfl⟩
    obtain ⟨hb5, hs5⟩ := new_below hw5
    have hS5 := Hp.new hw5
    have hp5 := HP4.out.below hb5
    have hrow5 := hp5.row
    have hsrc5 : Ap.Src w5 (.slice (some ⟨w4.heap.size, 0, none⟩) 1 1) 1 [.int .u8 32] := .inr ⟨_, _, rfl, fun q u hu => by
     rw [Addr.add_mid, Nat.zero_add]
     exact hS5.cell q (by rw [← hu]; simp)⟩
    have hbs5 : base ≤ w5.heap.size := by have := hb5.size; omega
    have p0 := hp40.cell 0 rfl
    have HP5 := Lib.hid hp5
    have hlen : (acc ++ sg ++ Rd.txts (l.take j)).length + 1 ≤ 140737488355328 := by have h1 := HTK.out; have h2 := HLE.out; have h3 := HHL.out; rw [h1, if_neg hj0] at h2; simp only [List.length_append, List.length_cons, List.length_nil] at h2 ⊢; omega
    obtain ⟨AC, hAC⟩ : ∃ AC, acc ++ sg ++ Rd.txts (l.take j) = AC := ⟨_, rfl⟩
    rw [hAC] at hrow5 hlen HP5 HP4 HPJ
    have HAC := Lib.hid hAC
    have hZ5 := HZ4.out.below hb5
    have HZ5 := Lib.hid hZ5
    clear hp40 hb5 hs5 hS5 hp5 hZ4 hp4 hbs4 hZ5 hrow4
    go_wp2_with (at_builtin; refine Ap.list rfl _ _ 53 rfl base 5 i0 (.int .u8 0) 1 1 Try.underlying53 HI0.out HZ0.out HZ1.out HZ2.out rfl (by decide) _ AC.length _ rfl hrow5 (.slice (some ⟨w4.heap.size, 0, none⟩) 1 1) 1 [.int .u8 32] rfl hsrc5 rfl (by intro u hu; simp at hu; subst hu; rfl) (by unfold maxLen; omega) (by omega) hbs5 ?_)
    intro v6 w6 hown6 hgr6 hat6
    obtain ⟨a6, c6, rfl⟩ := Dt.row_form hown6
    obtain ⟨g1, g2⟩ := Rd.Pw.push (x := [32]) HP5.out.hp HP5.out.row hPb hbs5 hown6 hgr6 hat6
    have p1 := g2.cell 0 rfl
    have f1 := g2.frz 0
    obtain ⟨w7, hw7⟩ : ∃ w7, w6.setCell ⟨P, 0, none⟩ (.slice a6 (AC.length + 1) c6) = w7 := ⟨_, rfl⟩
    have g1' : Rd.Pw base P w5 (.slice aj AC.length cj) w7 (AC ++ [32]) (.slice a6 (AC.length + 1) c6) := by rw [← hw7]; exact g1
    have hp7 := HP5.out.trans g1'
    have hZ7 := HZ5.out.keep g1'.kp (fun e => e.elim (fun e => by have := HZN.out.2.2; have := HBB.out; omega) (fun e => by have := HZN.out.2.1 ZB (by rw [← hAC] at e; exact e); omega))
    have hc := HIZ.out.1 F base P (AC ++ [32]) _ _ _ _ w7 HIZ.out.2.1 HIZ.out.2.2 ((HNF.out w7 hp7.kp).2.2 z _ _ _ HRZ.out) HFF.out hp7.again hPb (by have := g1'.kp.size; omega) (by have h1 := HTK.out; have h2 := HLE.out; have h3 := HHL.out; rw [h1, if_neg hj0] at h2; have h4 := congrArg List.length HAC.out; simp only [List.length_append, List.length_cons, List.length_nil] at h2 h4 ⊢; omega)
    have HP7 := Lib.hid hp7
    have z0 := hZ7.cell 0 rfl
    have z1 := hZ7.cell 1 rfl
    have z2 := hZ7.cell 2 rfl
    have z3 := hZ7.cell 3 rfl
    have z4 := hZ7.cell 4 rfl
    have z5 := hZ7.cell 5 rfl
    clear hown6 hgr6 hat6 g1 g2 g1' hp7 hZ7 hlen hbs5 hsrc5 hrow5 y0 y1 y2 y3 y4 y5 p0 hw4 hw5
    go_wp2_with fail
    refine hc.mono ?_
    rintro e w8 ⟨rfl, v8, hp8⟩
    have HN8 : Hid (Rd.Pw base P w1 v0 w8 (acc ++ sg ++ Rd.txts (l.take (j + 1))) v8) := by
     have := HP7.out.trans hp8
     show Rd.Pw _ _ _ _ _ _ _
     rw [HTK.out, if_neg hj0, ← List.append_assoc, ← List.append_assoc, HAC.out]
     exact this
    clear hc hp8 z0 z1 z2 z3 z4 z5 hw7 p1 f1
    go_wp2
    go_roundw
    case rel => exact ⟨j + 1, v8, by rw [HJW.out]; simp, by omega, HN8⟩
    case measure => rw [HJW.out]; simp [intOf]; omega
  ·have hge : (N : Int) ≤ (j : Int) := by omega
   have hpj := HPJ.out
   rw [List.take_of_length_le (by have := HNT.out; omega)] at hpj
   obtain ⟨AC, hAC⟩ : ∃ AC, acc ++ sg ++ Rd.txts l = AC := ⟨_, rfl⟩
   rw [hAC] at hpj
   have HAC := Lib.hid hAC
   have hbsr : base ≤ wr.heap.size := by have := hpj.kp.size; have := HBB.out; omega
   obtain ⟨hXr, -, -⟩ := HNF.out wr hpj.kp
   have x5 := hXr.cell 5 rfl
   clear hAC HPJ
   by_cases hT0 : T = 0
   ·subst hT0
    obtain rfl : t = [] := List.eq_nil_of_length_eq_zero HNT.out.2.1
    have hcw := pword_any 2 0 0 ⟨#[]⟩ [41] psign2 base P AC wr vj hpj.again hPb hbsr (by have h3 := HHL.out; have h4 := congrArg List.length HAC.out; simp only [List.length_append, List.length_cons, List.length_nil] at h4 ⊢; omega)
    have HPJ := Lib.hid hpj
    clear hXr hpj hbsr
    go_wp2_with fail
    refine hcw.mono ?_
    rintro e w9 ⟨rfl, v9, hp9⟩
    have HE : Hid (Rd.PutP base P (acc ++ (sg ++ Rd.txts l ++ Rd.txtt [] ++ [41])) v0 w (.returned (.tuple #[])) w9) := ⟨rfl, v9, by
     rw [Rd.txtt, List.append_nil, ← List.append_assoc, ← List.append_assoc, HAC.out]
     exact Rd.Pw.from HB1.out (HPJ.out.trans hp9)⟩
    clear hcw hp9 x5
    go_wp2
    refine bodyPost_ret (v := .tuple #[]) (by simp [results, Try.results20, go_sem, *]) rfl ?_
    exact HE.out
   ·have hTi : (0 : Int) < (T : Int) := by omega
    obtain ⟨d0, tr, rfl⟩ : ∃ d0 tr, t = d0 :: tr := by
     cases t with
     | nil => exact absurd HNT.out.2.1.symm hT0
     | cons d0 tr => exact ⟨d0, tr, rfl⟩
    obtain ⟨g, o, rfl, hFg, hgl, hreps⟩ := HTS.out (by simp [Dt.D.t])
    obtain ⟨um, ul, ut, hsix, hrz⟩ := hreps.at 0 (by simp [Dt.D.t])
    obtain ⟨d1, f1, q1, d2, f2, q2, d3, f3, q3, rfl, rfl, rfl⟩ := hrz.forms
    rw [Nat.zero_mul, Nat.add_zero] at hsix
    have hsix' : Dt.Six w g o d0 (.slice d1 f1 q1) (.slice d2 f2 q2) (.slice d3 f3 q3) := hsix
    have HRZ : Hid (Dt.Rep F w d0 (.slice d1 f1 q1) (.slice d2 f2 q2) (.slice d3 f3 q3)) := hrz
    have HSX := Lib.hid hsix'
    have HIZ := Lib.hid (HIT.out d0 (List.mem_cons_self))
    have HFG : Hid (F g ∧ g < w.heap.size) := ⟨hFg, hgl⟩
    have hrowr := hpj.row
    have hpr := hpj.hp
    obtain ⟨aj, cj, hvj⟩ := Dt.row_form hrowr
    subst hvj
    have p0 := hpr.cell 0 rfl
    have HPJ := Lib.hid hpj
    have hlen : AC.length + 3 ≤ 140737488355328 := by have h3 := HHL.out; have h4 := congrArg List.length HAC.out; rw [Rd.txtt] at h3; simp only [List.length_append, List.length_cons] at h3 h4 ⊢; omega
    have h3s : (⟨#[32, 46, 32]⟩ : ByteArray).size = 3 := rfl
    clear hXr hpj hsix hrz hsix' hreps hpr hFg hgl
    go_wp2_with (at_builtin; refine Ap.strList rfl _ _ 53 9 rfl base 5 i0 Try.underlying53 Try.underlying9 HI0.out HZ0.out HZ1.out HZ2.out _ _ _ rfl hrowr ⟨#[32, 46, 32]⟩ rfl (by rw [h3s]; unfold maxLen; omega) (by rw [h3s]; omega) hbsr ?_)
    intro v6 w6 hown6 hgr6 hat6
    obtain ⟨a6, c6, rfl⟩ := Dt.row_form hown6
    obtain ⟨g1, g2⟩ := Rd.Pw.push (x := [32, 46, 32]) HPJ.out.hp HPJ.out.row hPb hbsr (by
     have e : Lib.strCells ⟨#[32, 46, 32]⟩ = Lib.byteCells [32, 46, 32] := by rw [Lib.strCells_eq]
     rw [e] at hown6
     exact hown6) hgr6 hat6
    have p1 := g2.cell 0 rfl
    have f1 := g2.frz 0
    obtain ⟨w7, hw7⟩ : ∃ w7, w6.setCell ⟨P, 0, none⟩ (.slice a6 (AC.length + 3) c6) = w7 := ⟨_, rfl⟩
    have g1' : Rd.Pw base P wr (.slice aj AC.length cj) w7 (AC ++ [32, 46, 32]) (.slice a6 (AC.length + 3) c6) := by rw [← hw7]; exact g1
    have hp7 := HPJ.out.trans g1'
    obtain ⟨hX7, hsx7, hrp7⟩ := HNF.out w7 hp7.kp
    obtain ⟨y0, y1, y2, y3, y4, y5⟩ := hsx7 g o d0 _ _ _ HFG.out.1 HFG.out.2 HSX.out
    have x5' := hX7.cell 5 rfl
    have hc := HIZ.out.1 F base P (AC ++ [32, 46, 32]) _ _ _ _ w7 HIZ.out.2.1 HIZ.out.2.2 (hrp7 d0 _ _ _ HRZ.out) HFF.out hp7.again hPb (by have := g1'.kp.size; omega) (by have h3 := HHL.out; have h4 := congrArg List.length HAC.out; rw [Rd.txtt] at h3; simp only [List.length_append, List.length_cons, List.length_nil] at h3 h4 ⊢; omega)
    have HP7 := Lib.hid hp7
    have HS7 : Hid (base ≤ w7.heap.size) := by have := g1'.kp.size; show _ ≤ _; omega
    clear hown6 hgr6 hat6 g1 g2 g1' hp7 hX7 hsx7 hrp7 hlen hrowr hbsr p0 x5 h3s
    go_wp2_with fail
    refine hc.mono ?_
    rintro e w8 ⟨rfl, v8, hp8⟩
    have hcw := pword_any 2 0 0 ⟨#[]⟩ [41] psign2 base P (AC ++ [32, 46, 32] ++ Rd.txt d0) w8 v8 hp8.again hPb (by have := HS7.out; have := hp8.kp.size; omega) (by have h3 := HHL.out; have h4 := congrArg List.length HAC.out; rw [Rd.txtt] at h3; simp only [List.length_append, List.length_cons, List.length_nil] at h3 h4 ⊢; omega)
    have HP8 := Lib.hid (HP7.out.trans hp8)
    clear hc hp8 y0 y1 y2 y3 y4 y5 x5' hw7 p1 f1
    go_wp2_with fail
    refine hcw.mono ?_
    rintro e w9 ⟨rfl, v9, hp9⟩
    have HE : Hid (Rd.PutP base P (acc ++ (sg ++ Rd.txts l ++ Rd.txtt (d0 :: tr) ++ [41])) v0 w (.returned (.tuple #[])) w9) := ⟨rfl, v9, by
     have := Rd.Pw.from HB1.out (HP8.out.trans hp9)
     rw [← HAC.out] at this
     rw [Rd.txtt]
     simp only [List.append_assoc, List.cons_append, List.nil_append] at this ⊢
     exact this⟩
    clear hcw hp9
    go_wp2
    refine bodyPost_ret (v := .tuple #[]) (by simp [results, Try.results20, go_sem, *]) rfl ?_
    exact HE.out
set_option maxRecDepth 100000 in
set_option maxHeartbeats 16000000 in
theorem put_list7 {F : Nat → Prop} (n : Int) (s : ByteArray) (m : List Int) (l t : List Dt.D) (hil : ∀ x ∈ l, Rd.PutIs x ∧ Dt.Wf x ∧ Rd.Fine x) (hit : ∀ x ∈ t, Rd.PutIs x ∧ Dt.Wf x ∧ Rd.Fine x) (hsh : Rd.shortL 7 l = 0) (hln : l.length ≤ 140737488355328 ∧ t.length ≤ 140737488355328) (base P : Nat) (acc : List UInt8) (v0 vm vl vt : Value) (w : World) (hR : Dt.Rep F w (.mk 7 n s m l t) vm vl vt) (hF : ∀ k, F k → k < base ∧ k ≠ P)
  (hP : Rd.Pw base P w v0 w acc v0) (hPb : P < base) (hb : base ≤ w.heap.size) (hl : acc.length + ((Tx.signL 1 ++ Rd.txts l ++ Rd.txtt t ++ [41]).length) ≤ 140737488355328) :
  Calls Try.prog 20 #[.pointer (some ⟨P, 0, none⟩), .agg #[.int .i64 7, .int .i64 n, .string s, vm, vl, vt]] w (Rd.PutP base P (acc ++ (Tx.signL 1 ++ Rd.txts l ++ Rd.txtt t ++ [41])) v0 w) := by
 obtain ⟨b1, m1, p1, b2, m2, p2, b3, m3, p3, rfl, rfl, rfl⟩ := hR.forms
 obtain ⟨w1, hw1⟩ : ∃ w1, w.alloc (.cells #[.int .i64 7, .int .i64 n, .string s, .slice b1 m1 p1, .slice b2 m2 p2, .slice b3 m3 p3] 25) = w1 := ⟨_, rfl⟩
 obtain ⟨hb1, hs1⟩ := new_below hw1
 have hX1 := Hp.new hw1
 have hq := rdQuoted_any (.mk 7 n s m l t) _ _ _ w1 (hR.below hb1)
 rw [show Rd.shortL (Dt.D.mk 7 n s m l t).k (Dt.D.mk 7 n s m l t).l = 0 from hsh] at hq
 simp only [Dt.D.k, Dt.D.n, Dt.D.s] at hq
 obtain ⟨X, hX⟩ : ∃ X, w.heap.size = X := ⟨_, rfl⟩
 rw [hX] at hX1 hs1
 obtain ⟨sg, hsg⟩ : ∃ sg, Tx.signL 1 = sg := ⟨_, rfl⟩
 have HT := psign1
 rw [hsg] at HT hl ⊢
 simp only [List.length_append, List.length_cons, List.length_nil] at hl
 have HHL := Lib.hid hl
 obtain ⟨-, ⟨al, cl, e2, hcl, hcs⟩, ⟨at_, ct, e3, hct, hts⟩⟩ := (Dt.rep_iff _ _ _ _ _ _).1 hR
 cases e2
 cases e3
 rw [show (Dt.D.mk 7 n s m l t).l.length = l.length from rfl, show (Dt.D.mk 7 n s m l t).t.length = t.length from rfl] at hw1 hX1 hq ⊢
 obtain ⟨N, hN⟩ : ∃ N, l.length = N := ⟨_, rfl⟩
 obtain ⟨T, hT⟩ : ∃ T, t.length = T := ⟨_, rfl⟩
 rw [hN, hT] at hw1 hX1 hq ⊢
 obtain ⟨i0, hi, hz0, hz1, hz2⟩ := info_parts Cd.infoB
 have HI0 := Lib.hid hi
 have HZ0 := Lib.hid hz0
 have HZ1 := Lib.hid hz1
 have HZ2 := Lib.hid hz2
 have HCS := Lib.hid hcs
 have HTS := Lib.hid hts
 have HIL := Lib.hid hil
 have HIT := Lib.hid hit
 have HNT : Hid (l.length = N ∧ t.length = T ∧ N ≤ 140737488355328 ∧ T ≤ 140737488355328) := ⟨hN, hT, by omega, by omega⟩
 have HFF := Lib.hid hF
 have HB1 := Lib.hid hb1
 have HX1 := Lib.hid hX1
 have HP1 : Hid (Rd.Pw base P w1 v0 w1 acc v0) := (hP.below hb1).again
 have HBB : Hid (base ≤ w1.heap.size ∧ w.heap.size = X ∧ base ≤ X ∧ w1.heap.size = X + 1) := ⟨by have := hb1.size; omega, hX, by omega, hs1⟩
 have HOW : Hid (∀ k, v0.ownBlock = some k → base ≤ k ∧ k < w.heap.size) := fun k e => hP.row.lt k e
 have HNF : Hid (∀ W, Keep (fun k => k = P ∨ v0.ownBlock = some k) w1 W → Hp W X #[.int .i64 7, .int .i64 n, .string s, .slice b1 m1 p1, .slice b2 N p2, .slice b3 T p3] 25 ∧ (∀ (g o : Nat) (x : Dt.D) (um ul ut : Value), F g → g < w.heap.size → Dt.Six w g o x um ul ut → Dt.Six W g o x um ul ut) ∧ (∀ (x : Dt.D) (um ul ut : Value), Dt.Rep F w x um ul ut → Dt.Rep F W x um ul ut)) := fun W hk => by
  have hkw : Keep (fun k => k = P ∨ v0.ownBlock = some k) w W := (keep_of_below hb1).trans hk
  refine ⟨hX1.keep hk (fun e => e.elim (fun e => by omega) (fun e => by have := hP.row.lt X e; omega)), fun g o x um ul ut hg hgl h => h.keep hkw hgl (fun e => e.elim (hF g hg).2 (fun e => by have := (hP.row.lt g e).1; have := (hF g hg).1; omega)), fun x um ul ut h => Dt.Rep.keep hkw (fun k hk _ e => e.elim (hF k hk).2 (fun e => by have := (hP.row.lt k e).1; have := (hF k hk).1; omega)) x h⟩
 have x0 := hX1.cell 0 rfl
 have x1 := hX1.cell 1 rfl
 have x2 := hX1.cell 2 rfl
 have x3 := hX1.cell 3 rfl
 have x4 := hX1.cell 4 rfl
 have x5 := hX1.cell 5 rfl
 clear hX1 hb1 hs1 hR hP hb hsg hcs hts hF hil hit hln hl hi hz0 hz1 hz2 hcl hct hN hT
 go_enter Try.func20, Try.ntmps20
 go_wp2_with fail
 refine hq.mono ?_
 rintro e w2 ⟨rfl, hb2⟩
 have hp2 := HP1.out.below hb2
 obtain ⟨hX2, -, -⟩ := HNF.out w2 hp2.kp
 have hcw := pword_any 1 0 0 ⟨#[]⟩ sg HT base P acc w2 v0 hp2.again hPb (by have := HBB.out; have := hb2.size; omega) (by have := HHL.out; omega)
 have HP2 := Lib.hid hp2
 clear x0 x1 x2 x3 x4 x5 hw1 hq hb2 hp2
 have x0 := hX2.cell 0 rfl
 have x1 := hX2.cell 1 rfl
 have x2 := hX2.cell 2 rfl
 have x3 := hX2.cell 3 rfl
 have x4 := hX2.cell 4 rfl
 have x5 := hX2.cell 5 rfl
 clear hX2
 go_wp2_with fail
 refine hcw.mono ?_
 rintro e w3 ⟨rfl, v3, hp3⟩
 have hp3' := HP2.out.trans hp3
 obtain ⟨hX3, -, -⟩ := HNF.out w3 hp3'.kp
 have HP3 : Hid (Rd.Pw base P w1 v0 w3 (acc ++ sg ++ Rd.txts (l.take 0)) v3) := by
  show Rd.Pw _ _ _ _ _ _ _
  rw [List.take_zero, Rd.txts, List.append_nil]
  exact hp3'
 clear x0 x1 x2 x3 x4 x5 hcw hp3 hp3'
 have x4 := hX3.cell 4 rfl
 clear hX3
 go_wp2
 go_loopw [34] (fun vi wr => ∃ (j : Nat) (vj : Value), vi = .int .i64 j ∧ j ≤ N ∧ Hid (Rd.Pw base P w1 v0 wr (acc ++ sg ++ Rd.txts (l.take j)) vj)) (fun vi _ => N - (intOf vi).toNat)
 case atStart => exact ⟨0, v3, rfl, by omega, HP3⟩
 case round =>
  clear HP3 HP2
  obtain ⟨j, vj, rfl, hj, HPJ⟩ := hrel
  by_cases hlt : j < N
  ·have hlti : (j : Int) < (N : Int) := by omega
   have HJW : Hid (wrap64 ((j : Int) + 1) = (j : Int) + 1) := by have := HNT.out; show _ = _; unfold wrap64; omega
   have hjl : j < l.length := by have := HNT.out; omega
   obtain ⟨g, o, rfl, hFg, hgl, hreps⟩ := HCS.out (by intro e; have e' : l = [] := e; rw [e'] at hjl; exact absurd hjl (by simp))
   obtain ⟨um, ul, ut, hsix, hrz⟩ := hreps.at j hjl
   obtain ⟨d1, f1, q1, d2, f2, q2, d3, f3, q3, rfl, rfl, rfl⟩ := hrz.forms
   obtain ⟨z, hz⟩ : ∃ z, l[j] = z := ⟨_, rfl⟩
   have HTK : Hid (Rd.txts (l.take (j + 1)) = Rd.txts (l.take j) ++ (if j = 0 then [] else [32]) ++ Rd.txt z) := by show _ = _; rw [Rd.txts_take l j hjl, hz]
   have HIZ := Lib.hid (HIL.out l[j] (List.getElem_mem hjl))
   have hrz' : Dt.Rep F w z (.slice d1 f1 q1) (.slice d2 f2 q2) (.slice d3 f3 q3) := by rw [← hz]; exact hrz
   have hsix' : Dt.Six w g (o + j * 6) z (.slice d1 f1 q1) (.slice d2 f2 q2) (.slice d3 f3 q3) := by rw [← hz]; exact hsix
   rw [hz] at HIZ
   have HLE : Hid ((Rd.txts (l.take (j + 1))).length ≤ (Rd.txts l).length) := Rd.txts_le l (j + 1)
   have HRZ := Lib.hid hrz'
   obtain ⟨-, hsx, -⟩ := HNF.out wr HPJ.out.kp
   obtain ⟨y0, y1, y2, y3, y4, y5⟩ := hsx g (o + j * 6) z _ _ _ hFg hgl hsix'
   obtain ⟨w4, hw4⟩ : ∃ w4, wr.alloc (.cells #[.int .i64 z.k, .int .i64 z.n, .string z.s, .slice d1 f1 q1, .slice d2 f2 q2, .slice d3 f3 q3] 25) = w4 := ⟨_, rfl⟩
   obtain ⟨hb4, hs4⟩ := new_below hw4
   have hZ4 := Hp.new hw4
   have HZ4 := Lib.hid hZ4
   have hp4 := HPJ.out.below hb4
   have HP4 := Lib.hid hp4
   have HZN : Hid (Hp w4 wr.heap.size #[.int .i64 z.k, .int .i64 z.n, .string z.s, .slice d1 f1 q1, .slice d2 f2 q2, .slice d3 f3 q3] 25 ∧ (∀ k, vj.ownBlock = some k → base ≤ k ∧ k < wr.heap.size) ∧ w1.heap.size ≤ wr.heap.size) := ⟨hZ4, fun k e => HPJ.out.row.lt k e, HPJ.out.kp.size⟩
   obtain ⟨ZB, hZB⟩ : ∃ ZB, wr.heap.size = ZB := ⟨_, rfl⟩
   rw [hZB] at HZN HZ4 hZ4
   have hbs4 : base ≤ w4.heap.size := by have := HZN.out.2.2; have := HBB.out; omega
   have HBS4 := Lib.hid hbs4
   clear hsix hrz hrz' hsix' hreps hsx hz hb4 hs4 hjl
   by_cases hj0 : j = 0
   ·subst hj0
    have hc := HIZ.out.1 F base P (acc ++ sg ++ Rd.txts (l.take 0)) vj _ _ _ w4 HIZ.out.2.1 HIZ.out.2.2 ((HNF.out w4 HP4.out.kp).2.2 z _ _ _ HRZ.out) HFF.out hp4.again hPb hbs4 (by have h1 := HTK.out; have h2 := HLE.out; have h3 := HHL.out; rw [h1] at h2; simp only [List.length_append] at h2 ⊢; omega)
    have z0 := hZ4.cell 0 rfl
    have z1 := hZ4.cell 1 rfl
    have z2 := hZ4.cell 2 rfl
    have z3 := hZ4.cell 3 rfl
    have z4 := hZ4.cell 4 rfl
    have z5 := hZ4.cell 5 rfl
    simp only [Nat.zero_mul, Nat.add_zero] at y0 y1 y2 y3 y4 y5
    clear hZ4 hp4 hbs4
    go_wp2_with fail
    refine hc.mono ?_
    rintro e w5 ⟨rfl, v5, hp5⟩
    have HN5 : Hid (Rd.Pw base P w1 v0 w5 (acc ++ sg ++ Rd.txts (l.take 1)) v5) := by
     have := HP4.out.trans hp5
     have h1 := HTK.out
     simp only [Nat.zero_add, if_pos] at h1
     show Rd.Pw _ _ _ _ _ _ _
     rw [h1, List.append_nil, ← List.append_assoc]
     exact this
    clear hc hp5 z0 z1 z2 z3 z4 z5 y0 y1 y2 y3 y4 y5 hw4
    go_wp2
    go_roundw
    case rel => exact ⟨1, v5, by simp, by omega, HN5⟩
    case measure => simp [intOf]; omega
   ·have hji : (0 : Int) < (j : Int) := by omega
    have hrow4 := HP4.out.row
    obtain ⟨aj, cj, hvj⟩ := Dt.row_form hrow4
    subst hvj
    have hp40 := HP4.out.hp
    obtain ⟨w5, hw5⟩ : ∃ w5, w4.alloc (.cells #[.int .u8 32] 5) = w5 := ⟨_, rfl⟩
    obtain ⟨hb5, hs5⟩ := new_below hw5
    have hS5 := Hp.new hw5
    have hp5 := HP4.out.below hb5
    have hrow5 := hp5.row
    have hsrc5 : Ap.Src w5 (.slice (some ⟨w4.heap.size, 0, none⟩) 1 1) 1 [.int .u8 32] := .inr ⟨_, _, rfl, fun q u hu => by
     rw [Addr.add_mid, Nat.zero_add]
     exact hS5.cell q (by rw [← hu]; simp)⟩
    have hbs5 : base ≤ w5.heap.size := by have := hb5.size; omega
    have p0 := hp40.cell 0 rfl
    have HP5 := Lib.hid hp5
    have hlen : (acc ++ sg ++ Rd.txts (l.take j)).length + 1 ≤ 140737488355328 := by have h1 := HTK.out; have h2 := HLE.out; have h3 := HHL.out; rw [h1, if_neg hj0] at h2; simp only [List.length_append, List.length_cons, List.length_nil] at h2 ⊢; omega
    obtain ⟨AC, hAC⟩ : ∃ AC, acc ++ sg ++ Rd.txts (l.take j) = AC := ⟨_, rfl⟩
    rw [hAC] at hrow5 hlen HP5 HP4 HPJ
    have HAC := Lib.hid hAC
    have hZ5 := HZ4.out.below hb5
    have HZ5 := Lib.hid hZ5
    clear hp40 hb5 hs5 hS5 hp5 hZ4 hp4 hbs4 hZ5 hrow4
    go_wp2_with (at_builtin; refine Ap.list rfl _ _ 53 rfl base 5 i0 (.int .u8 0) 1 1 Try.underlying53 HI0.out HZ0.out HZ1.out HZ2.out rfl (by decide) _ AC.length _ rfl hrow5 (.slice (some ⟨w4.heap.size, 0, none⟩) 1 1) 1 [.int .u8 32] rfl hsrc5 rfl (by intro u hu; simp at hu; subst hu; rfl) (by unfold maxLen; omega) (by omega) hbs5 ?_)
    intro v6 w6 hown6 hgr6 hat6
    obtain ⟨a6, c6, rfl⟩ := Dt.row_form hown6
    obtain ⟨g1, g2⟩ := Rd.Pw.push (x := [32]) HP5.out.hp HP5.out.row hPb hbs5 hown6 hgr6 hat6
    have p1 := g2.cell 0 rfl
    have f1 := g2.frz 0
    obtain ⟨w7, hw7⟩ : ∃ w7, w6.setCell ⟨P, 0, none⟩ (.slice a6 (AC.length + 1) c6) = w7 := ⟨_, rfl⟩
    have g1' : Rd.Pw base P w5 (.slice aj AC.length cj) w7 (AC ++ [32]) (.slice a6 (AC.length + 1) c6) := by rw [← hw7]; exact g1
    have hp7 := HP5.out.trans g1'
    have hZ7 := HZ5.out.keep g1'.kp (fun e => e.elim (fun e => by have := HZN.out.2.2; have := HBB.out; omega) (fun e => by have := HZN.out.2.1 ZB (by rw [← hAC] at e; exact e); omega))
    have hc := HIZ.out.1 F base P (AC ++ [32]) _ _ _ _ w7 HIZ.out.2.1 HIZ.out.2.2 ((HNF.out w7 hp7.kp).2.2 z _ _ _ HRZ.out) HFF.out hp7.again hPb (by have := g1'.kp.size; omega) (by have h1 := HTK.out; have h2 := HLE.out; have h3 := HHL.out; rw [h1, if_neg hj0] at h2; have h4 := congrArg List.length HAC.out; simp only [List.length_append, List.length_cons, List.length_nil] at h2 h4 ⊢; omega)
    have HP7 := Lib.hid hp7
    have z0 := hZ7.cell 0 rfl
    have z1 := hZ7.cell 1 rfl
    have z2 := hZ7.cell 2 rfl
    have z3 := hZ7.cell 3 rfl
    have z4 := hZ7.cell 4 rfl
    have z5 := hZ7.cell 5 rfl
    clear hown6 hgr6 hat6 g1 g2 g1' hp7 hZ7 hlen hbs5 hsrc5 hrow5 y0 y1 y2 y3 y4 y5 p0 hw4 hw5
    go_wp2_with fail
    refine hc.mono ?_
    rintro e w8 ⟨rfl, v8, hp8⟩
    have HN8 : Hid (Rd.Pw base P w1 v0 w8 (acc ++ sg ++ Rd.txts (l.take (j + 1))) v8) := by
     have := HP7.out.trans hp8
     show Rd.Pw _ _ _ _ _ _ _
     rw [HTK.out, if_neg hj0, ← List.append_assoc, ← List.append_assoc, HAC.out]
     exact this
    clear hc hp8 z0 z1 z2 z3 z4 z5 hw7 p1 f1
    go_wp2
    go_roundw
    case rel => exact ⟨j + 1, v8, by rw [HJW.out]; simp, by omega, HN8⟩
    case measure => rw [HJW.out]; simp [intOf]; omega
  ·have hge : (N : Int) ≤ (j : Int) := by omega
   have hpj := HPJ.out
   rw [List.take_of_length_le (by have := HNT.out; omega)] at hpj
   obtain ⟨AC, hAC⟩ : ∃ AC, acc ++ sg ++ Rd.txts l = AC := ⟨_, rfl⟩
   rw [hAC] at hpj
   have HAC := Lib.hid hAC
   have hbsr : base ≤ wr.heap.size := by have := hpj.kp.size; have := HBB.out; omega
   obtain ⟨hXr, -, -⟩ := HNF.out wr hpj.kp
   have x5 := hXr.cell 5 rfl
   clear hAC HPJ
   by_cases hT0 : T = 0
   ·subst hT0
    obtain rfl : t = [] := List.eq_nil_of_length_eq_zero HNT.out.2.1
    have hcw := pword_any 2 0 0 ⟨#[]⟩ [41] psign2 base P AC wr vj hpj.again hPb hbsr (by have h3 := HHL.out; have h4 := congrArg List.length HAC.out; simp only [List.length_append, List.length_cons, List.length_nil] at h4 ⊢; omega)
    have HPJ := Lib.hid hpj
    clear hXr hpj hbsr
    go_wp2_with fail
    refine hcw.mono ?_
    rintro e w9 ⟨rfl, v9, hp9⟩
    have HE : Hid (Rd.PutP base P (acc ++ (sg ++ Rd.txts l ++ Rd.txtt [] ++ [41])) v0 w (.returned (.tuple #[])) w9) := ⟨rfl, v9, by
     rw [Rd.txtt, List.append_nil, ← List.append_assoc, ← List.append_assoc, HAC.out]
     exact Rd.Pw.from HB1.out (HPJ.out.trans hp9)⟩
    clear hcw hp9 x5
    go_wp2
    refine bodyPost_ret (v := .tuple #[]) (by simp [results, Try.results20, go_sem, *]) rfl ?_
    exact HE.out
   ·have hTi : (0 : Int) < (T : Int) := by omega
    obtain ⟨d0, tr, rfl⟩ : ∃ d0 tr, t = d0 :: tr := by
     cases t with
     | nil => exact absurd HNT.out.2.1.symm hT0
     | cons d0 tr => exact ⟨d0, tr, rfl⟩
    obtain ⟨g, o, rfl, hFg, hgl, hreps⟩ := HTS.out (by simp [Dt.D.t])
    obtain ⟨um, ul, ut, hsix, hrz⟩ := hreps.at 0 (by simp [Dt.D.t])
    obtain ⟨d1, f1, q1, d2, f2, q2, d3, f3, q3, rfl, rfl, rfl⟩ := hrz.forms
    rw [Nat.zero_mul, Nat.add_zero] at hsix
    have hsix' : Dt.Six w g o d0 (.slice d1 f1 q1) (.slice d2 f2 q2) (.slice d3 f3 q3) := hsix
    have HRZ : Hid (Dt.Rep F w d0 (.slice d1 f1 q1) (.slice d2 f2 q2) (.slice d3 f3 q3)) := hrz
    have HSX := Lib.hid hsix'
    have HIZ := Lib.hid (HIT.out d0 (List.mem_cons_self))
    have HFG : Hid (F g ∧ g < w.heap.size) := ⟨hFg, hgl⟩
    have hrowr := hpj.row
    have hpr := hpj.hp
    obtain ⟨aj, cj, hvj⟩ := Dt.row_form hrowr
    subst hvj
    have p0 := hpr.cell 0 rfl
    have HPJ := Lib.hid hpj
    have hlen : AC.length + 3 ≤ 140737488355328 := by have h3 := HHL.out; have h4 := congrArg List.length HAC.out; rw [Rd.txtt] at h3; simp only [List.length_append, List.length_cons] at h3 h4 ⊢; omega
    have h3s : (⟨#[32, 46, 32]⟩ : ByteArray).size = 3 := rfl
    clear hXr hpj hsix hrz hsix' hreps hpr hFg hgl
    go_wp2_with (at_builtin; refine Ap.strList rfl _ _ 53 9 rfl base 5 i0 Try.underlying53 Try.underlying9 HI0.out HZ0.out HZ1.out HZ2.out _ _ _ rfl hrowr ⟨#[32, 46, 32]⟩ rfl (by rw [h3s]; unfold maxLen; omega) (by rw [h3s]; omega) hbsr ?_)
    intro v6 w6 hown6 hgr6 hat6
    obtain ⟨a6, c6, rfl⟩ := Dt.row_form hown6
    obtain ⟨g1, g2⟩ := Rd.Pw.push (x := [32, 46, 32]) HPJ.out.hp HPJ.out.row hPb hbsr (by
     have e : Lib.strCells ⟨#[32, 46, 32]⟩ = Lib.byteCells [32, 46, 32] := by rw [Lib.strCells_eq]
     rw [e] at hown6
     exact hown6) hgr6 hat6
    have p1 := g2.cell 0 rfl
    have f1 := g2.frz 0
    obtain ⟨w7, hw7⟩ : ∃ w7, w6.setCell ⟨P, 0, none⟩ (.slice a6 (AC.length + 3) c6) = w7 := ⟨_, rfl⟩
    have g1' : Rd.Pw base P wr (.slice aj AC.length cj) w7 (AC ++ [32, 46, 32]) (.slice a6 (AC.length + 3) c6) := by rw [← hw7]; exact g1
    have hp7 := HPJ.out.trans g1'
    obtain ⟨hX7, hsx7, hrp7⟩ := HNF.out w7 hp7.kp
    obtain ⟨y0, y1, y2, y3, y4, y5⟩ := hsx7 g o d0 _ _ _ HFG.out.1 HFG.out.2 HSX.out
    have x5' := hX7.cell 5 rfl
    have hc := HIZ.out.1 F base P (AC ++ [32, 46, 32]) _ _ _ _ w7 HIZ.out.2.1 HIZ.out.2.2 (hrp7 d0 _ _ _ HRZ.out) HFF.out hp7.again hPb (by have := g1'.kp.size; omega) (by have h3 := HHL.out; have h4 := congrArg List.length HAC.out; rw [Rd.txtt] at h3; simp only [List.length_append, List.length_cons, List.length_nil] at h3 h4 ⊢; omega)
    have HP7 := Lib.hid hp7
    have HS7 : Hid (base ≤ w7.heap.size) := by have := g1'.kp.size; show _ ≤ _; omega
    clear hown6 hgr6 hat6 g1 g2 g1' hp7 hX7 hsx7 hrp7 hlen hrowr hbsr p0 x5 h3s
    go_wp2_with fail
    refine hc.mono ?_
    rintro e w8 ⟨rfl, v8, hp8⟩
    have hcw := pword_any 2 0 0 ⟨#[]⟩ [41] psign2 base P (AC ++ [32, 46, 32] ++ Rd.txt d0) w8 v8 hp8.again hPb (by have := HS7.out; have := hp8.kp.size; omega) (by have h3 := HHL.out; have h4 := congrArg List.length HAC.out; rw [Rd.txtt] at h3; simp only [List.length_append, List.length_cons, List.length_nil] at h3 h4 ⊢; omega)
    have HP8 := Lib.hid (HP7.out.trans hp8)
    clear hc hp8 y0 y1 y2 y3 y4 y5 x5' hw7 p1 f1
    go_wp2_with fail
    refine hcw.mono ?_
    rintro e w9 ⟨rfl, v9, hp9⟩
    have HE : Hid (Rd.PutP base P (acc ++ (sg ++ Rd.txts l ++ Rd.txtt (d0 :: tr) ++ [41])) v0 w (.returned (.tuple #[])) w9) := ⟨rfl, v9, by
     have := Rd.Pw.from HB1.out (HP8.out.trans hp9)
     rw [← HAC.out] at this
     rw [Rd.txtt]
     simp only [List.append_assoc, List.cons_append, List.nil_append] at this ⊢
     exact this⟩
    clear hcw hp9
    go_wp2
    refine bodyPost_ret (v := .tuple #[]) (by simp [results, Try.results20, go_sem, *]) rfl ?_
    exact HE.out
set_option maxRecDepth 100000 in
set_option maxHeartbeats 16000000 in
theorem put_list8 {F : Nat → Prop} (n : Int) (s : ByteArray) (m : List Int) (l t : List Dt.D) (hil : ∀ x ∈ l, Rd.PutIs x ∧ Dt.Wf x ∧ Rd.Fine x) (hit : ∀ x ∈ t, Rd.PutIs x ∧ Dt.Wf x ∧ Rd.Fine x) (hsh : Rd.shortL 8 l = 0) (hln : l.length ≤ 140737488355328 ∧ t.length ≤ 140737488355328) (base P : Nat) (acc : List UInt8) (v0 vm vl vt : Value) (w : World) (hR : Dt.Rep F w (.mk 8 n s m l t) vm vl vt) (hF : ∀ k, F k → k < base ∧ k ≠ P)
  (hP : Rd.Pw base P w v0 w acc v0) (hPb : P < base) (hb : base ≤ w.heap.size) (hl : acc.length + ((Tx.signL 3 ++ Rd.txts l ++ Rd.txtt t ++ [41]).length) ≤ 140737488355328) :
  Calls Try.prog 20 #[.pointer (some ⟨P, 0, none⟩), .agg #[.int .i64 8, .int .i64 n, .string s, vm, vl, vt]] w (Rd.PutP base P (acc ++ (Tx.signL 3 ++ Rd.txts l ++ Rd.txtt t ++ [41])) v0 w) := by
 obtain ⟨b1, m1, p1, b2, m2, p2, b3, m3, p3, rfl, rfl, rfl⟩ := hR.forms
 obtain ⟨w1, hw1⟩ : ∃ w1, w.alloc (.cells #[.int .i64 8, .int .i64 n, .string s, .slice b1 m1 p1, .slice b2 m2 p2, .slice b3 m3 p3] 25) = w1 := ⟨_, rfl⟩
 obtain ⟨hb1, hs1⟩ := new_below hw1
 have hX1 := Hp.new hw1
 have hq := rdQuoted_any (.mk 8 n s m l t) _ _ _ w1 (hR.below hb1)
 rw [show Rd.shortL (Dt.D.mk 8 n s m l t).k (Dt.D.mk 8 n s m l t).l = 0 from hsh] at hq
 simp only [Dt.D.k, Dt.D.n, Dt.D.s] at hq
 obtain ⟨X, hX⟩ : ∃ X, w.heap.size = X := ⟨_, rfl⟩
 rw [hX] at hX1 hs1
 obtain ⟨sg, hsg⟩ : ∃ sg, Tx.signL 3 = sg := ⟨_, rfl⟩
 have HT := psign3
 rw [hsg] at HT hl ⊢
 simp only [List.length_append, List.length_cons, List.length_nil] at hl
 have HHL := Lib.hid hl
 obtain ⟨-, ⟨al, cl, e2, hcl, hcs⟩, ⟨at_, ct, e3, hct, hts⟩⟩ := (Dt.rep_iff _ _ _ _ _ _).1 hR
 cases e2
 cases e3
 rw [show (Dt.D.mk 8 n s m l t).l.length = l.length from rfl, show (Dt.D.mk 8 n s m l t).t.length = t.length from rfl] at hw1 hX1 hq ⊢
 obtain ⟨N, hN⟩ : ∃ N, l.length = N := ⟨_, rfl⟩
 obtain ⟨T, hT⟩ : ∃ T, t.length = T := ⟨_, rfl⟩
 rw [hN, hT] at hw1 hX1 hq ⊢
 obtain ⟨i0, hi, hz0, hz1, hz2⟩ := info_parts Cd.infoB
 have HI0 := Lib.hid hi
 have HZ0 := Lib.hid hz0
 have HZ1 := Lib.hid hz1
 have HZ2 := Lib.hid hz2
 have HCS := Lib.hid hcs
 have HTS := Lib.hid hts
 have HIL := Lib.hid hil
 have HIT := Lib.hid hit
 have HNT : Hid (l.length = N ∧ t.length = T ∧ N ≤ 140737488355328 ∧ T ≤ 140737488355328) := ⟨hN, hT, by omega, by omega⟩
 have HFF := Lib.hid hF
 have HB1 := Lib.hid hb1
 have HX1 := Lib.hid hX1
 have HP1 : Hid (Rd.Pw base P w1 v0 w1 acc v0) := (hP.below hb1).again
 have HBB : Hid (base ≤ w1.heap.size ∧ w.heap.size = X ∧ base ≤ X ∧ w1.heap.size = X + 1) := ⟨by have := hb1.size; omega, hX, by omega, hs1⟩
 have HOW : Hid (∀ k, v0.ownBlock = some k → base ≤ k ∧ k < w.heap.size) := fun k e => hP.row.lt k e
 have HNF : Hid (∀ W, Keep (fun k => k = P ∨ v0.ownBlock = some k) w1 W → Hp W X #[.int .i64 8, .int .i64 n, .string s, .slice b1 m1 p1, .slice b2 N p2, .slice b3 T p3] 25 ∧ (∀ (g o : Nat) (x : Dt.D) (um ul ut : Value), F g → g < w.heap.size → Dt.Six w g o x um ul ut → Dt.Six W g o x um ul ut) ∧ (∀ (x : Dt.D) (um ul ut : Value), Dt.Rep F w x um ul ut → Dt.Rep F W x um ul ut)) := fun W hk => by
  have hkw : Keep (fun k => k = P ∨ v0.ownBlock = some k) w W := (keep_of_below hb1).trans hk
  refine ⟨hX1.keep hk (fun e => e.elim (fun e => by omega) (fun e => by have := hP.row.lt X e; omega)), fun g o x um ul ut hg hgl h => h.keep hkw hgl (fun e => e.elim (hF g hg).2 (fun e => by have := (hP.row.lt g e).1; have := (hF g hg).1; omega)), fun x um ul ut h => Dt.Rep.keep hkw (fun k hk _ e => e.elim (hF k hk).2 (fun e => by have := (hP.row.lt k e).1; have := (hF k hk).1; omega)) x h⟩
 have x0 := hX1.cell 0 rfl
 have x1 := hX1.cell 1 rfl
 have x2 := hX1.cell 2 rfl
 have x3 := hX1.cell 3 rfl
 have x4 := hX1.cell 4 rfl
 have x5 := hX1.cell 5 rfl
 clear hX1 hb1 hs1 hR hP hb hsg hcs hts hF hil hit hln hl hi hz0 hz1 hz2 hcl hct hN hT
 go_enter Try.func20, Try.ntmps20
 go_wp2_with fail
 refine hq.mono ?_
 rintro e w2 ⟨rfl, hb2⟩
 have hp2 := HP1.out.below hb2
 obtain ⟨hX2, -, -⟩ := HNF.out w2 hp2.kp
 have hcw := pword_any 3 0 0 ⟨#[]⟩ sg HT base P acc w2 v0 hp2.again hPb (by have := HBB.out; have := hb2.size; omega) (by have := HHL.out; omega)
 have HP2 := Lib.hid hp2
 clear x0 x1 x2 x3 x4 x5 hw1 hq hb2 hp2
 have x0 := hX2.cell 0 rfl
 have x1 := hX2.cell 1 rfl
 have x2 := hX2.cell 2 rfl
 have x3 := hX2.cell 3 rfl
 have x4 := hX2.cell 4 rfl
 have x5 := hX2.cell 5 rfl
 clear hX2
 go_wp2_with fail
 refine hcw.mono ?_
 rintro e w3 ⟨rfl, v3, hp3⟩
 have hp3' := HP2.out.trans hp3
 obtain ⟨hX3, -, -⟩ := HNF.out w3 hp3'.kp
 have HP3 : Hid (Rd.Pw base P w1 v0 w3 (acc ++ sg ++ Rd.txts (l.take 0)) v3) := by
  show Rd.Pw _ _ _ _ _ _ _
  rw [List.take_zero, Rd.txts, List.append_nil]
  exact hp3'
 clear x0 x1 x2 x3 x4 x5 hcw hp3 hp3'
 have x4 := hX3.cell 4 rfl
 clear hX3
 go_wp2
 go_loopw [34] (fun vi wr => ∃ (j : Nat) (vj : Value), vi = .int .i64 j ∧ j ≤ N ∧ Hid (Rd.Pw base P w1 v0 wr (acc ++ sg ++ Rd.txts (l.take j)) vj)) (fun vi _ => N - (intOf vi).toNat)
 case atStart => exact ⟨0, v3, rfl, by omega, HP3⟩
 case round =>
  clear HP3 HP2
  obtain ⟨j, vj, rfl, hj, HPJ⟩ := hrel
  by_cases hlt : j < N
  ·have hlti : (j : Int) < (N : Int) := by omega
   have HJW : Hid (wrap64 ((j : Int) + 1) = (j : Int) + 1) := by have := HNT.out; show _ = _; unfold wrap64; omega
   have hjl : j < l.length := by have := HNT.out; omega
   obtain ⟨g, o, rfl, hFg, hgl, hreps⟩ := HCS.out (by intro e; have e' : l = [] := e; rw [e'] at hjl; exact absurd hjl (by simp))
   obtain ⟨um, ul, ut, hsix, hrz⟩ := hreps.at j hjl
   obtain ⟨d1, f1, q1, d2, f2, q2, d3, f3, q3, rfl, rfl, rfl⟩ := hrz.forms
   obtain ⟨z, hz⟩ : ∃ z, l[j] = z := ⟨_, rfl⟩
   have HTK : Hid (Rd.txts (l.take (j + 1)) = Rd.txts (l.take j) ++ (if j = 0 then [] else [32]) ++ Rd.txt z) := by show _ = _; rw [Rd.txts_take l j hjl, hz]
   have HIZ := Lib.hid (HIL.out l[j] (List.getElem_mem hjl))
   have hrz' : Dt.Rep F w z (.slice d1 f1 q1) (.slice d2 f2 q2) (.slice d3 f3 q3) := by rw [← hz]; exact hrz
   have hsix' : Dt.Six w g (o + j * 6) z (.slice d1 f1 q1) (.slice d2 f2 q2) (.slice d3 f3 q3) := by rw [← hz]; exact hsix
   rw [hz] at HIZ
   have HLE : Hid ((Rd.txts (l.take (j + 1))).length ≤ (Rd.txts l).length) := Rd.txts_le l (j + 1)
   have HRZ := Lib.hid hrz'
   obtain ⟨-, hsx, -⟩ := HNF.out wr HPJ.out.kp
   obtain ⟨y0, y1, y2, y3, y4, y5⟩ := hsx g (o + j * 6) z _ _ _ hFg hgl hsix'
   obtain ⟨w4, hw4⟩ : ∃ w4, wr.alloc (.cells #[.int .i64 z.k, .int .i64 z.n, .string z.s, .slice d1 f1 q1, .slice d2 f2 q2, .slice d3 f3 q3] 25) = w4 := ⟨_, rfl⟩
   obtain ⟨hb4, hs4⟩ := new_below hw4
   have hZ4 := Hp.new hw4
   have HZ4 := Lib.hid hZ4
   have hp4 := HPJ.out.below hb4
   have HP4 := Lib.hid hp4
   have HZN : Hid (Hp w4 wr.heap.size #[.int .i64 z.k, .int .i64 z.n, .string z.s, .slice d1 f1 q1, .slice d2 f2 q2, .slice d3 f3 q3] 25 ∧ (∀ k, vj.ownBlock = some k → base ≤ k ∧ k < wr.heap.size) ∧ w1.heap.size ≤ wr.heap.size) := ⟨hZ4, fun k e => HPJ.out.row.lt k e, HPJ.out.kp.size⟩
   obtain ⟨ZB, hZB⟩ : ∃ ZB, wr.heap.size = ZB := ⟨_, rfl⟩
   rw [hZB] at HZN HZ4 hZ4
   have hbs4 : base ≤ w4.heap.size := by have := HZN.out.2.2; have := HBB.out; omega
   have HBS4 := Lib.hid hbs4
   clear hsix hrz hrz' hsix' hreps hsx hz hb4 hs4 hjl
   by_cases hj0 : j = 0
   ·subst hj0
    have hc := HIZ.out.1 F base P (acc ++ sg ++ Rd.txts (l.take 0)) vj _ _ _ w4 HIZ.out.2.1 HIZ.out.2.2 ((HNF.out w4 HP4.out.kp).2.2 z _ _ _ HRZ.out) HFF.out hp4.again hPb hbs4 (by have h1 := HTK.out; have h2 := HLE.out; have h3 := HHL.out; rw [h1] at h2; simp only [List.length_append] at h2 ⊢; omega)
    have z0 := hZ4.cell 0 rfl
    have z1 := hZ4.cell 1 rfl
    have z2 := hZ4.cell 2 rfl
    have z3 := hZ4.cell 3 rfl
    have z4 := hZ4.cell 4 rfl
    have z5 := hZ4.cell 5 rfl
    simp only [Nat.zero_mul, Nat.add_zero] at y0 y1 y2 y3 y4 y5
    clear hZ4 hp4 hbs4
    go_wp2_with fail
    refine hc.mono ?_
    rintro e w5 ⟨rfl, v5, hp5⟩
    have HN5 : Hid (Rd.Pw base P w1 v0 w5 (acc ++ sg ++ Rd.txts (l.take 1)) v5) := by
     have := HP4.out.trans hp5
     have h1 := HTK.out
     simp only [Nat.zero_add, if_pos] at h1
     show Rd.Pw _ _ _ _ _ _ _
     rw [h1, List.append_nil, ← List.append_assoc]
     exact this
    clear hc hp5 z0 z1 z2 z3 z4 z5 y0 y1 y2 y3 y4 y5 hw4
    go_wp2
    go_roundw
    case rel => exact ⟨1, v5, by simp, by omega, HN5⟩
    case measure => simp [intOf]; omega
   ·have hji : (0 : Int) < (j : Int) := by omega
    have hrow4 := HP4.out.row
    obtain ⟨aj, cj, hvj⟩ := Dt.row_form hrow4
    subst hvj
    have hp40 := HP4.out.hp
    obtain ⟨w5, hw5⟩ : ∃ w5, w4.alloc (.cells #[.int .u8 32] 5) = w5 := ⟨_, rfl⟩
    obtain ⟨hb5, hs5⟩ := new_below hw5
    have hS5 := Hp.new hw5
    have hp5 := HP4.out.below hb5
    have hrow5 := hp5.row
    have hsrc5 : Ap.Src w5 (.slice (some ⟨w4.heap.size, 0, none⟩) 1 1) 1 [.int .u8 32] := .inr ⟨_, _, rfl, fun q u hu => by
     rw [Addr.add_mid, Nat.zero_add]
     exact hS5.cell q (by rw [← hu]; simp)⟩
    have hbs5 : base ≤ w5.heap.size := by have := hb5.size; omega
    have p0 := hp40.cell 0 rfl
    have HP5 := Lib.hid hp5
    have hlen : (acc ++ sg ++ Rd.txts (l.take j)).length + 1 ≤ 140737488355328 := by have h1 := HTK.out; have h2 := HLE.out; have h3 := HHL.out; rw [h1, if_neg hj0] at h2; simp only [List.length_append, List.length_cons, List.length_nil] at h2 ⊢; omega
    obtain ⟨AC, hAC⟩ : ∃ AC, acc ++ sg ++ Rd.txts (l.take j) = AC := ⟨_, rfl⟩
    rw [hAC] at hrow5 hlen HP5 HP4 HPJ
    have HAC := Lib.hid hAC
    have hZ5 := HZ4.out.below hb5
    have HZ5 := Lib.hid hZ5
    clear hp40 hb5 hs5 hS5 hp5 hZ4 hp4 hbs4 hZ5 hrow4
    go_wp2_with (at_builtin; refine Ap.list rfl _ _ 53 rfl base 5 i0 (.int .u8 0) 1 1 Try.underlying53 HI0.out HZ0.out HZ1.out HZ2.out rfl (by decide) _ AC.length _ rfl hrow5 (.slice (some ⟨w4.heap.size, 0, none⟩) 1 1) 1 [.int .u8 32] rfl hsrc5 rfl (by intro u hu; simp at hu; subst hu; rfl) (by unfold maxLen; omega) (by omega) hbs5 ?_)
    intro v6 w6 hown6 hgr6 hat6
    obtain ⟨a6, c6, rfl⟩ := Dt.row_form hown6
    obtain ⟨g1, g2⟩ := Rd.Pw.push (x := [32]) HP5.out.hp HP5.out.row hPb hbs5 hown6 hgr6 hat6
    have p1 := g2.cell 0 rfl
    have f1 := g2.frz 0
    obtain ⟨w7, hw7⟩ : ∃ w7, w6.setCell ⟨P, 0, none⟩ (.slice a6 (AC.length + 1) c6) = w7 := ⟨_, rfl⟩
    have g1' : Rd.Pw base P w5 (.slice aj AC.length cj) w7 (AC ++ [32]) (.slice a6 (AC.length + 1) c6) := by rw [← hw7]; exact g1
    have hp7 := HP5.out.trans g1'
    have hZ7 := HZ5.out.keep g1'.kp (fun e => e.elim (fun e => by have := HZN.out.2.2; have := HBB.out; omega) (fun e => by have := HZN.out.2.1 ZB (by rw [← hAC] at e; exact e); omega))
    have hc := HIZ.out.1 F base P (AC ++ [32]) _ _ _ _ w7 HIZ.out.2.1 HIZ.out.2.2 ((HNF.out w7 hp7.kp).2.2 z _ _ _ HRZ.out) HFF.out hp7.again hPb (by have := g1'.kp.size; omega) (by have h1 := HTK.out; have h2 := HLE.out; have h3 := HHL.out; rw [h1, if_neg hj0] at h2; have h4 := congrArg List.length HAC.out; simp only [List.length_append, List.length_cons, List.length_nil] at h2 h4 ⊢; omega)
    have HP7 := Lib.hid hp7
    have z0 := hZ7.cell 0 rfl
    have z1 := hZ7.cell 1 rfl
    have z2 := hZ7.cell 2 rfl
    have z3 := hZ7.cell 3 rfl
    have z4 := hZ7.cell 4 rfl
    have z5 := hZ7.cell 5 rfl
    clear hown6 hgr6 hat6 g1 g2 g1' hp7 hZ7 hlen hbs5 hsrc5 hrow5 y0 y1 y2 y3 y4 y5 p0 hw4 hw5
    go_wp2_with fail
    refine hc.mono ?_
    rintro e w8 ⟨rfl, v8, hp8⟩
    have HN8 : Hid (Rd.Pw base P w1 v0 w8 (acc ++ sg ++ Rd.txts (l.take (j + 1))) v8) := by
     have := HP7.out.trans hp8
     show Rd.Pw _ _ _ _ _ _ _
     rw [HTK.out, if_neg hj0, ← List.append_assoc, ← List.append_assoc, HAC.out]
     exact this
    clear hc hp8 z0 z1 z2 z3 z4 z5 hw7 p1 f1
    go_wp2
    go_roundw
    case rel => exact ⟨j + 1, v8, by rw [HJW.out]; simp, by omega, HN8⟩
    case measure => rw [HJW.out]; simp [intOf]; omega
  ·have hge : (N : Int) ≤ (j : Int) := by omega
   have hpj := HPJ.out
   rw [List.take_of_length_le (by have := HNT.out; omega)] at hpj
   obtain ⟨AC, hAC⟩ : ∃ AC, acc ++ sg ++ Rd.txts l = AC := ⟨_, rfl⟩
   rw [hAC] at hpj
   have HAC := Lib.hid hAC
   have hbsr : base ≤ wr.heap.size := by have := hpj.kp.size; have := HBB.out; omega
   obtain ⟨hXr, -, -⟩ := HNF.out wr hpj.kp
   have x5 := hXr.cell 5 rfl
   clear hAC HPJ
   by_cases hT0 : T = 0
   ·subst hT0
    obtain rfl : t = [] := List.eq_nil_of_length_eq_zero HNT.out.2.1
    have hcw := pword_any 2 0 0 ⟨#[]⟩ [41] psign2 base P AC wr vj hpj.again hPb hbsr (by have h3 := HHL.out; have h4 := congrArg List.length HAC.out; simp only [List.length_append, List.length_cons, List.length_nil] at h4 ⊢; omega)
    have HPJ := Lib.hid hpj
    clear hXr hpj hbsr
    go_wp2_with fail
    refine hcw.mono ?_
    rintro e w9 ⟨rfl, v9, hp9⟩
    have HE : Hid (Rd.PutP base P (acc ++ (sg ++ Rd.txts l ++ Rd.txtt [] ++ [41])) v0 w (.returned (.tuple #[])) w9) := ⟨rfl, v9, by
     rw [Rd.txtt, List.append_nil, ← List.append_assoc, ← List.append_assoc, HAC.out]
     exact Rd.Pw.from HB1.out (HPJ.out.trans hp9)⟩
    clear hcw hp9 x5
    go_wp2
    refine bodyPost_ret (v := .tuple #[]) (by simp [results, Try.results20, go_sem, *]) rfl ?_
    exact HE.out
   ·have hTi : (0 : Int) < (T : Int) := by omega
    obtain ⟨d0, tr, rfl⟩ : ∃ d0 tr, t = d0 :: tr := by
     cases t with
     | nil => exact absurd HNT.out.2.1.symm hT0
     | cons d0 tr => exact ⟨d0, tr, rfl⟩
    obtain ⟨g, o, rfl, hFg, hgl, hreps⟩ := HTS.out (by simp [Dt.D.t])
    obtain ⟨um, ul, ut, hsix, hrz⟩ := hreps.at 0 (by simp [Dt.D.t])
    obtain ⟨d1, f1, q1, d2, f2, q2, d3, f3, q3, rfl, rfl, rfl⟩ := hrz.forms
    rw [Nat.zero_mul, Nat.add_zero] at hsix
    have hsix' : Dt.Six w g o d0 (.slice d1 f1 q1) (.slice d2 f2 q2) (.slice d3 f3 q3) := hsix
    have HRZ : Hid (Dt.Rep F w d0 (.slice d1 f1 q1) (.slice d2 f2 q2) (.slice d3 f3 q3)) := hrz
    have HSX := Lib.hid hsix'
    have HIZ := Lib.hid (HIT.out d0 (List.mem_cons_self))
    have HFG : Hid (F g ∧ g < w.heap.size) := ⟨hFg, hgl⟩
    have hrowr := hpj.row
    have hpr := hpj.hp
    obtain ⟨aj, cj, hvj⟩ := Dt.row_form hrowr
    subst hvj
    have p0 := hpr.cell 0 rfl
    have HPJ := Lib.hid hpj
    have hlen : AC.length + 3 ≤ 140737488355328 := by have h3 := HHL.out; have h4 := congrArg List.length HAC.out; rw [Rd.txtt] at h3; simp only [List.length_append, List.length_cons] at h3 h4 ⊢; omega
    have h3s : (⟨#[32, 46, 32]⟩ : ByteArray).size = 3 := rfl
    clear hXr hpj hsix hrz hsix' hreps hpr hFg hgl
    go_wp2_with (at_builtin; refine Ap.strList rfl _ _ 53 9 rfl base 5 i0 Try.underlying53 Try.underlying9 HI0.out HZ0.out HZ1.out HZ2.out _ _ _ rfl hrowr ⟨#[32, 46, 32]⟩ rfl (by rw [h3s]; unfold maxLen; omega) (by rw [h3s]; omega) hbsr ?_)
    intro v6 w6 hown6 hgr6 hat6
    obtain ⟨a6, c6, rfl⟩ := Dt.row_form hown6
    obtain ⟨g1, g2⟩ := Rd.Pw.push (x := [32, 46, 32]) HPJ.out.hp HPJ.out.row hPb hbsr (by
     have e : Lib.strCells ⟨#[32, 46, 32]⟩ = Lib.byteCells [32, 46, 32] := by rw [Lib.strCells_eq]
     rw [e] at hown6
     exact hown6) hgr6 hat6
    have p1 := g2.cell 0 rfl
    have f1 := g2.frz 0
    obtain ⟨w7, hw7⟩ : ∃ w7, w6.setCell ⟨P, 0, none⟩ (.slice a6 (AC.length + 3) c6) = w7 := ⟨_, rfl⟩
    have g1' : Rd.Pw base P wr (.slice aj AC.length cj) w7 (AC ++ [32, 46, 32]) (.slice a6 (AC.length + 3) c6) := by rw [← hw7]; exact g1
    have hp7 := HPJ.out.trans g1'
    obtain ⟨hX7, hsx7, hrp7⟩ := HNF.out w7 hp7.kp
    obtain ⟨y0, y1, y2, y3, y4, y5⟩ := hsx7 g o d0 _ _ _ HFG.out.1 HFG.out.2 HSX.out
    have x5' := hX7.cell 5 rfl
    have hc := HIZ.out.1 F base P (AC ++ [32, 46, 32]) _ _ _ _ w7 HIZ.out.2.1 HIZ.out.2.2 (hrp7 d0 _ _ _ HRZ.out) HFF.out hp7.again hPb (by have := g1'.kp.size; omega) (by have h3 := HHL.out; have h4 := congrArg List.length HAC.out; rw [Rd.txtt] at h3; simp only [List.length_append, List.length_cons, List.length_nil] at h3 h4 ⊢; omega)
    have HP7 := Lib.hid hp7
    have HS7 : Hid (base ≤ w7.heap.size) := by have := g1'.kp.size; show _ ≤ _; omega
    clear hown6 hgr6 hat6 g1 g2 g1' hp7 hX7 hsx7 hrp7 hlen hrowr hbsr p0 x5 h3s
    go_wp2_with fail
    refine hc.mono ?_
    rintro e w8 ⟨rfl, v8, hp8⟩
    have hcw := pword_any 2 0 0 ⟨#[]⟩ [41] psign2 base P (AC ++ [32, 46, 32] ++ Rd.txt d0) w8 v8 hp8.again hPb (by have := HS7.out; have := hp8.kp.size; omega) (by have h3 := HHL.out; have h4 := congrArg List.length HAC.out; rw [Rd.txtt] at h3; simp only [List.length_append, List.length_cons, List.length_nil] at h3 h4 ⊢; omega)
    have HP8 := Lib.hid (HP7.out.trans hp8)
    clear hc hp8 y0 y1 y2 y3 y4 y5 x5' hw7 p1 f1
    go_wp2_with fail
    refine hcw.mono ?_
    rintro e w9 ⟨rfl, v9, hp9⟩
    have HE : Hid (Rd.PutP base P (acc ++ (sg ++ Rd.txts l ++ Rd.txtt (d0 :: tr) ++ [41])) v0 w (.returned (.tuple #[])) w9) := ⟨rfl, v9, by
     have := Rd.Pw.from HB1.out (HP8.out.trans hp9)
     rw [← HAC.out] at this
     rw [Rd.txtt]
     simp only [List.append_assoc, List.cons_append, List.nil_append] at this ⊢
     exact this⟩
    clear hcw hp9
    go_wp2
    refine bodyPost_ret (v := .tuple #[]) (by simp [results, Try.results20, go_sem, *]) rfl ?_
    exact HE.out
namespace Rd
open Dt
theorem single_kind {d : D} (h : single d = true) : d.k = 1 ∨ d.k = 2 ∨ d.k = 3 ∨ d.k = 4 ∨ d.k = 5 ∨ d.k = 6 ∨ d.k = 7 ∨ d.k = 8 := by
 cases d
 rename_i k n s m l t
 show k = 1 ∨ k = 2 ∨ k = 3 ∨ k = 4 ∨ k = 5 ∨ k = 6 ∨ k = 7 ∨ k = 8
 by_cases h8 : k = 1 ∨ k = 2 ∨ k = 3 ∨ k = 4 ∨ k = 5 ∨ k = 6 ∨ k = 7 ∨ k = 8
 ·exact h8
 ·unfold single at h
  simp only at h
  rw [if_neg (by omega), if_neg (by omega), if_neg (by omega), if_neg (by omega), if_neg (by omega), if_neg (by omega), if_neg (by omega)] at h
  cases h
theorem short_not6 {k : Int} (h : k ≠ 6) (l : List D) : shortL k l = 0 := (short_cases k l).elim id (fun e => absurd e.1 h)
mutual
theorem puts : ∀ d : D, PutIs d
 | .mk k n s m l t => by
  intro F base P acc v0 vm vl vt w hW hFi hR hF hP hPb hb hl
  have hL := putsL l
  have hT := putsL t
  obtain ⟨hs1, hfl, hft⟩ := fine_parts hFi
  have hsz := single_s hs1
  have hwl : ∀ x ∈ l, Wf x := fun x hx => by obtain ⟨j, hj, rfl⟩ := List.getElem_of_mem hx; exact Wfs.at (wf_l hW) j hj
  have hwt : ∀ x ∈ t, Wf x := fun x hx => by obtain ⟨j, hj, rfl⟩ := List.getElem_of_mem hx; exact Wfs.at (wf_t hW) j hj
  have hln := wf_len hW
  have hn : -9223372036854775808 ≤ n ∧ n ≤ 9223372036854775807 := by rw [Wf] at hW; exact hW.1
  have hil : ∀ x ∈ l, PutIs x ∧ Wf x ∧ Fine x := fun x hx => ⟨hL x hx, hwl x hx, hfl x hx⟩
  have hit : ∀ x ∈ t, PutIs x ∧ Wf x ∧ Fine x := fun x hx => ⟨hT x hx, hwt x hx, hft x hx⟩
  have hsh6 : ∀ h : k ≠ 6, shortL k l = 0 := fun h => short_not6 h l
  simp only [D.k, D.n, D.s]
  rw [txt] at hl ⊢
  rcases single_kind hs1 with e | e | e | e | e | e | e | e
  all_goals (have e' : k = _ := e; subst e')
  ·rw [if_neg (by rw [hsh6 (by decide)]; decide), if_pos (by decide)] at hl ⊢
   exact put_leaf1 n s m l t base P acc v0 vm vl vt w hn hsz hR hP hPb hb hl
  ·rw [if_neg (by rw [hsh6 (by decide)]; decide), if_pos (by decide)] at hl ⊢
   exact put_leaf2 n s m l t base P acc v0 vm vl vt w hn hsz hR hP hPb hb hl
  ·rw [if_neg (by rw [hsh6 (by decide)]; decide), if_pos (by decide)] at hl ⊢
   exact put_leaf3 n s m l t base P acc v0 vm vl vt w hn hsz hR hP hPb hb hl
  ·rw [if_neg (by rw [hsh6 (by decide)]; decide), if_pos (by decide)] at hl ⊢
   exact put_leaf4 n s m l t base P acc v0 vm vl vt w hn hsz hR hP hPb hb hl
  ·rw [if_neg (by rw [hsh6 (by decide)]; decide), if_pos (by decide)] at hl ⊢
   exact put_leaf5 n s m l t base P acc v0 vm vl vt w hn hsz hR hP hPb hb hl
  ·rcases short_cases 6 l with h0 | ⟨-, h4, h7, y, z, rfl, -, -⟩
   ·rw [if_neg (by rw [h0]; decide), if_neg (by decide)] at hl ⊢
    exact put_list6 n s m l t hil hit h0 hln base P acc v0 vm vl vt w hR hF hP hPb hb hl
   ·have hz := hil z (by simp)
    rw [if_pos (by omega), txt2, txt1] at hl ⊢
    rw [List.length_append] at hl
    obtain h | h | h | h : shortL 6 [y, z] = 4 ∨ shortL 6 [y, z] = 5 ∨ shortL 6 [y, z] = 6 ∨ shortL 6 [y, z] = 7 := by omega
    ·rw [h] at hl ⊢
     exact put_short4 n s m y z t hz.1 hz.2.1 hz.2.2 h base P acc v0 vm vl vt w hR hF hP hPb hb hl
    ·rw [h] at hl ⊢
     exact put_short5 n s m y z t hz.1 hz.2.1 hz.2.2 h base P acc v0 vm vl vt w hR hF hP hPb hb hl
    ·rw [h] at hl ⊢
     exact put_short6 n s m y z t hz.1 hz.2.1 hz.2.2 h base P acc v0 vm vl vt w hR hF hP hPb hb hl
    ·rw [h] at hl ⊢
     exact put_short7 n s m y z t hz.1 hz.2.1 hz.2.2 h base P acc v0 vm vl vt w hR hF hP hPb hb hl
  ·rw [if_neg (by rw [hsh6 (by decide)]; decide), if_neg (by decide)] at hl ⊢
   exact put_list7 n s m l t hil hit (hsh6 (by decide)) hln base P acc v0 vm vl vt w hR hF hP hPb hb hl
  ·rw [if_neg (by rw [hsh6 (by decide)]; decide), if_neg (by decide)] at hl ⊢
   exact put_list8 n s m l t hil hit (hsh6 (by decide)) hln base P acc v0 vm vl vt w hR hF hP hPb hb hl
theorem putsL : ∀ l : List D, ∀ x ∈ l, PutIs x
 | [], x, hx => by cases hx
 | d :: r, x, hx => by
  have h1 := puts d
  have h2 := putsL r
  rcases List.mem_cons.1 hx with rfl | hx
  ·exact h1
  ·exact h2 x hx
end
end Rd
end Go.Proofs.Ytcopdfihaheplaa
namespace Go.Proofs.Ytcopdfihaheplaa
open Go.RowKit
attribute [local go_sem] Oper.semAt_some
set_option maxRecDepth 100000 in
theorem rdConv_bytes {w : World} {base : Nat} {a : Option Addr} {c : Nat} (l : List UInt8) (h : w.ownsRow base 5 1 (.slice a l.length c) l.length (Lib.byteCells l)) :
  (convert 53 9 (.slice a l.length c)).run Try.prog w = .ok (.string ⟨l.toArray⟩) w := by
 have h0 := h
 obtain ⟨_, h1⟩ := h
 rcases h1 with ⟨e, hn⟩ | ⟨g, cap, cur, e, _, _, _, _, _, _⟩
 ·have : l = [] := List.eq_nil_of_length_eq_zero hn
  subst this
  cases e
  have := run_convert_bytes_nil (P := Try.prog) w 53 5 Try.underlying53 Try.underlying5 0 0 9 Try.underlying9
  exact this
 ·cases e
  have hr := run_convert_bytes_arg (P := Try.prog) w 53 5 Try.underlying53 Try.underlying5 g 0 l.length c (l.map fun c => (c.toNat : Int)) (by simp) (fun i hi => by
   rw [Nat.zero_add, h0.cellAt i (by omega)]
   simp [Lib.byteCells, List.getD, List.getElem?_eq_getElem hi]) 9 Try.underlying9
  rw [hr]
  congr 2
  unfold strOfNums
  rw [List.map_map]
  congr 2
  conv => rhs; rw [← List.map_id l]
  apply List.map_congr_left
  intro c _
  simp [Function.comp]
namespace Rd
open Dt
def pr (d : D) : List UInt8 × Int := if check d ≠ 0 then ([], check d) else if 16384 < (txt d).length then ([], 3) else (txt d, 0)
def PrV (R : List UInt8 × Int) : Value := .tuple #[.string ⟨R.1.toArray⟩, .int .i64 R.2]
end Rd
set_option maxRecDepth 100000 in
set_option maxHeartbeats 8000000 in
theorem rdPrint_any {F : Nat → Prop} (x : Dt.D) (vm vl vt : Value) (w : World) (hW : Dt.Wf x) (hR : Dt.Rep F w x vm vl vt) :
  Calls Try.prog 9 #[.agg #[.int .i64 x.k, .int .i64 x.n, .string x.s, vm, vl, vt]] w fun e w' => e = .returned (Rd.PrV (Rd.pr x)) ∧ Below w.heap.size w w' := by
 have hR0 : Dt.Rep (fun k => k < w.heap.size) w x vm vl vt := Dt.Rep.mono (fun b _ hb => hb) x hR
 obtain ⟨b1, m1, p1, b2, m2, p2, b3, m3, p3, rfl, rfl, rfl⟩ := hR.forms
 obtain ⟨w1, hw1⟩ : ∃ w1, w.alloc (.cells #[.int .i64 x.k, .int .i64 x.n, .string x.s, .slice b1 m1 p1, .slice b2 m2 p2, .slice b3 m3 p3] 25) = w1 := ⟨_, rfl⟩
 obtain ⟨hb1, hs1⟩ := new_below hw1
 have hX1 := Hp.new hw1
 have hck := dCheck_any x _ _ _ w1 hW (hR.below hb1)
 have HR1 := Lib.hid (hR0.below hb1)
 have HB1 := Lib.hid hb1
 have HX1 := Lib.hid hX1
 have HW := Lib.hid hW
 have HS1 := Lib.hid hs1
 obtain ⟨CK, hCK⟩ : ∃ CK, Dt.check x = CK := ⟨_, rfl⟩
 rw [hCK] at hck
 have HCK := Lib.hid hCK
 have x0 := hX1.cell 0 rfl
 have x1 := hX1.cell 1 rfl
 have x2 := hX1.cell 2 rfl
 have x3 := hX1.cell 3 rfl
 have x4 := hX1.cell 4 rfl
 have x5 := hX1.cell 5 rfl
 clear hX1 hb1 hs1 hR hR0 hW hCK
 by_cases h0 : CK = 0
 case neg =>
  have h1 : (CK != 0) = true := by simpa using h0
  have HE : Hid (Rd.pr x = ([], CK)) := by show _ = _; unfold Rd.pr; rw [HCK.out, if_pos h0]
  clear h0
  go_enter Try.func9, Try.ntmps9
  go_wp2_with fail
  refine hck.mono ?_
  rintro e w2 ⟨rfl, hb2⟩
  have HB2 : Hid (Below w.heap.size w w2) := HB1.out.trans (hb2.mono HB1.out.size)
  clear hck hb2 hw1 x0 x1 x2 x3 x4 x5
  go_wp2
  refine bodyPost_ret (v := .tuple #[.string ⟨#[]⟩, .int .i64 CK]) (by simp [results, Try.results9, go_sem, *]) rfl ?_
  exact ⟨by rw [HE.out]; rfl, HB2.out⟩
 subst h0
 have h1 : ((0 : Int) != 0) = false := rfl
 go_enter Try.func9, Try.ntmps9
 go_upto_region 4 with fail
 refine hck.mono ?_
 rintro e w2 ⟨rfl, hb2⟩
 have hX2 := HX1.out.below hb2
 have HX2 := Lib.hid hX2
 have HR2 := Lib.hid (HR1.out.below hb2)
 have HB2 : Hid (Below w.heap.size w w2) := HB1.out.trans (hb2.mono HB1.out.size)
 have HS2 : Hid (w.heap.size < w2.heap.size) := by have := hb2.size; have := HS1.out; show _ < _; omega
 clear hck hb2 hw1 x0 x1 x2 x3 x4 x5 hX2
 go_upto_region 4 with fail
 obtain ⟨P, hP⟩ : ∃ P, w2.heap.size = P := ⟨_, rfl⟩
 obtain ⟨w3, hw3⟩ : ∃ w3, w2.alloc (.cells #[.slice none 0 0] 55) = w3 := ⟨_, rfl⟩
 obtain ⟨hb3, hs3⟩ := new_below hw3
 have hP3 := Hp.new hw3
 rw [hP] at hP3 hs3
 have hX3 := HX2.out.below hb3
 have hlen := Rd.txt_len HCK.out
 have hc := Rd.puts x (fun k => k < w.heap.size) (P + 1) P [] (.slice none 0 0) _ _ _ w3 HW.out (Rd.fine_of HCK.out) (HR2.out.below hb3) (fun k hk => by have := HS2.out; omega) (Rd.Pw.start hP3 (World.ownsRow_nil _ _ _ _)) (Nat.lt_succ_self P) (by omega) (by rw [List.length_nil]; omega)
 have HB3 : Hid (Below w.heap.size w w3) := HB2.out.trans (hb3.mono HB2.out.size)
 have HS3 : Hid (w3.heap.size = P + 1 ∧ w.heap.size < P) := ⟨hs3, by have := HS2.out; omega⟩
 have x0 := hX3.cell 0 rfl
 have x1 := hX3.cell 1 rfl
 have x2 := hX3.cell 2 rfl
 have x3 := hX3.cell 3 rfl
 have x4 := hX3.cell 4 rfl
 have x5 := hX3.cell 5 rfl
 clear hb3 hs3 hP3 hX3 hlen
 go_wp2_with fail
 refine hc.mono ?_
 rintro e w4 ⟨rfl, v4, hp4⟩
 rw [List.nil_append] at hp4
 have hr4 := hp4.row
 have hpp := hp4.hp
 obtain ⟨TX, hTX⟩ : ∃ TX, Rd.txt x = TX := ⟨_, rfl⟩
 rw [hTX] at hr4
 obtain ⟨a4, c4, rfl⟩ := Dt.row_form hr4
 have HB4 : Hid (Below w.heap.size w w4) := HB3.out.trans (hp4.kp.to_below (fun k e => e.elim (fun e => by have := HS3.out; omega) (fun e => by cases e)) (by have := HS3.out; omega))
 have hcv := rdConv_bytes TX hr4
 have p0 := hpp.cell 0 rfl
 have HTX := Lib.hid hTX
 clear hc hp4 hr4 hpp hTX hw3 x0 x1 x2 x3 x4 x5
 by_cases hl : 16384 < TX.length
 ·have hli : (16384 : Int) < (TX.length : Int) := by omega
  have HE : Hid (Rd.pr x = ([], 3)) := by show _ = _; unfold Rd.pr; rw [HCK.out, if_neg (by decide), HTX.out, if_pos hl]
  clear hcv hl
  go_wp2
  refine bodyPost_ret (v := .tuple #[.string ⟨#[]⟩, .int .i64 3]) (by simp [results, Try.results9, go_sem, *]) rfl ?_
  exact ⟨by rw [HE.out]; rfl, HB4.out⟩
 ·have hli : ¬ (16384 : Int) < (TX.length : Int) := by omega
  have HE : Hid (Rd.pr x = (TX, 0)) := by show _ = _; unfold Rd.pr; rw [HCK.out, if_neg (by decide), HTX.out, if_neg hl]
  clear hl
  go_wp2
  refine bodyPost_ret (v := .tuple #[.string ⟨TX.toArray⟩, .int .i64 0]) (by simp [results, Try.results9, go_sem, *]) rfl ?_
  exact ⟨by rw [HE.out]; rfl, HB4.out⟩
end Go.Proofs.Ytcopdfihaheplaa
namespace Go.Proofs.Ytcopdfihaheplaa
open Go.RowKit
attribute [local go_sem] Oper.semAt_some
namespace Rd
open Dt
def lcat (l : List D) : List UInt8 := l.flatMap (fun d => (pr d).1 ++ [10])
def lerr : List D → Int
 | [] => 0
 | d :: r => if (pr d).2 ≠ 0 then (pr d).2 else lerr r
def lns (l : List D) : List UInt8 × Int := if 256 < l.length then ([], 3) else if lerr l ≠ 0 then ([], lerr l) else if 16384 < (lcat l).length then ([], 3) else (lcat l, 0)
theorem pr_len (d : D) : (pr d).1.length ≤ 16384 := by
 unfold pr
 split
 ·simp
 split
 ·simp
 ·show (txt d).length ≤ 16384
  omega
theorem lcat_len : ∀ l : List D, (lcat l).length ≤ 16385 * l.length
 | [] => by simp [lcat]
 | d :: r => by
  have h1 := pr_len d
  have h2 := lcat_len r
  have e : lcat (d :: r) = ((pr d).1 ++ [10]) ++ lcat r := by unfold lcat; rw [List.flatMap_cons]
  rw [e]
  simp only [List.length_append, List.length_cons, List.length_nil]
  omega
theorem lcat_take (l : List D) (k : Nat) (h : k < l.length) : lcat (l.take (k + 1)) = lcat (l.take k) ++ ((pr l[k]).1 ++ [10]) := by
 unfold lcat
 rw [List.take_add_one, List.getElem?_eq_getElem h, Option.toList_some, List.flatMap_append, List.flatMap_singleton]
theorem lerr_at : ∀ (l : List D) (k : Nat) (h : k < l.length), (∀ d ∈ l.take k, (pr d).2 = 0) → (pr l[k]).2 ≠ 0 → lerr l = (pr l[k]).2
 | [], k, h, _, _ => absurd h (by simp)
 | d :: r, 0, _, _, h2 => by rw [lerr]; exact if_pos h2
 | d :: r, k + 1, h, h1, h2 => by
  have h3 : (pr d).2 = 0 := h1 d (by rw [List.take_succ_cons]; exact List.mem_cons_self)
  rw [lerr, if_neg (by rw [h3]; simp)]
  exact lerr_at r k (by simpa using h) (fun x hx => h1 x (by rw [List.take_succ_cons]; exact List.mem_cons_of_mem _ hx)) h2
theorem lerr_no : ∀ l : List D, (∀ d ∈ l, (pr d).2 = 0) → lerr l = 0
 | [], _ => rfl
 | d :: r, h => by
  rw [lerr, if_neg (by rw [h d List.mem_cons_self]; simp)]
  exact lerr_no r (fun x hx => h x (List.mem_cons_of_mem _ hx))
theorem all_take {l : List D} {k : Nat} (h : k < l.length) (h1 : ∀ d ∈ l.take k, (pr d).2 = 0) (h2 : (pr l[k]).2 = 0) : ∀ d ∈ l.take (k + 1), (pr d).2 = 0 := by
 intro d hd
 rw [List.take_add_one, List.getElem?_eq_getElem h, Option.toList_some] at hd
 rcases List.mem_append.1 hd with hd | hd
 ·exact h1 d hd
 ·rw [List.mem_singleton.1 hd]; exact h2
theorem rdCat (x y : List UInt8) (hx : x.length ≤ 8388608) (hy : y.length ≤ 8388608) (w : World) : (Op.stringOp .add ⟨x.toArray⟩ ⟨y.toArray⟩).run Try.prog w = .ok (.string ⟨(x ++ y).toArray⟩) w :=
 run_string_add_lists w x y (by omega) (by omega)
end Rd
set_option maxRecDepth 100000 in
set_option maxHeartbeats 8000000 in
theorem rdLines_any {F : Nat → Prop} (l : List Dt.D) (vl : Value) (w : World) (hW : Dt.Wfs l) (hR : Dt.Row F w vl l) :
  Calls Try.prog 17 #[vl] w fun e w' => e = .returned (Rd.PrV (Rd.lns l)) ∧ Below w.heap.size w w' := by
 obtain ⟨al, cl, rfl, hcl, hcs⟩ := hR
 obtain ⟨N, hN⟩ : ∃ N, l.length = N := ⟨_, rfl⟩
 rw [hN]
 by_cases hl : 256 < N
 ·have HE : Hid (Rd.lns l = ([], 3)) := by show _ = _; unfold Rd.lns; rw [hN, if_pos hl]
  have hli : (256 : Int) < (N : Int) := by omega
  clear hcs hcl hl hN
  go_enter Try.func17, Try.ntmps17
  go_wp2
  go_ret2
  exact ⟨by rw [HE.out]; rfl, Below.refl _ _⟩
 have hli : ¬ (256 : Int) < (N : Int) := by omega
 have HN : Hid (l.length = N ∧ N ≤ 256) := ⟨hN, by omega⟩
 have HW := Lib.hid hW
 have HCS := Lib.hid hcs
 clear hcs hcl hl hN hW
 go_enter Try.func17, Try.ntmps17
 go_wp2
 go_loopw [4, 14] (fun vo vi wr => ∃ k : Nat, vo = .string ⟨(Rd.lcat (l.take k)).toArray⟩ ∧ vi = .int .i64 k ∧ k ≤ N ∧ Hid (∀ d ∈ l.take k, (Rd.pr d).2 = 0) ∧ Hid (Below w.heap.size w wr)) (fun _ vi _ => N - (intOf vi).toNat)
 case atStart => exact ⟨0, rfl, rfl, by omega, fun d hd => by simp at hd, Below.refl _ _⟩
 case round =>
  obtain ⟨k, rfl, rfl, hk, HA, HB⟩ := hrel
  obtain ⟨AC, hAC⟩ : ∃ AC, Rd.lcat (l.take k) = AC := ⟨_, rfl⟩
  rw [hAC]
  have HACL : Hid (AC.length ≤ 16385 * 256) := by
   have := Rd.lcat_len (l.take k)
   rw [hAC, List.length_take] at this
   have := HN.out
   show _ ≤ _
   omega
  have HAC := Lib.hid hAC
  clear hAC
  by_cases hlt : k < N
  ·have hlti : (k : Int) < (N : Int) := by omega
   have hkl : k < l.length := by have := HN.out; omega
   obtain ⟨g, o, rfl, -, hgl, hreps⟩ := HCS.out (by intro e; rw [e] at hkl; exact absurd hkl (by simp))
   obtain ⟨um, ul, ut, hsix, hrz⟩ := hreps.at k hkl
   obtain ⟨d1, f1, q1, d2, f2, q2, d3, f3, q3, rfl, rfl, rfl⟩ := hrz.forms
   have hwz := HW.out.at k hkl
   have hst := Rd.lcat_take l k hkl
   have hea := Rd.lerr_at l k hkl HA.out
   have hat := Rd.all_take hkl HA.out
   obtain ⟨z, hz⟩ : ∃ z, l[k] = z := ⟨_, rfl⟩
   rw [hz] at hsix hrz hwz hst hea hat
   have hsr := hsix.keep (S := fun _ => False) (keep_of_below HB.out) hgl id
   obtain ⟨y0, y1, y2, y3, y4, y5⟩ := hsr
   obtain ⟨w4, hw4⟩ : ∃ w4, wr.alloc (.cells #[.int .i64 z.k, .int .i64 z.n, .string z.s, .slice d1 f1 q1, .slice d2 f2 q2, .slice d3 f3 q3] 25) = w4 := ⟨_, rfl⟩
   obtain ⟨hb4, hs4⟩ := new_below hw4
   have hZ4 := Hp.new hw4
   obtain ⟨ZB, hZB⟩ : ∃ ZB, wr.heap.size = ZB := ⟨_, rfl⟩
   rw [hZB] at hZ4
   have hc := rdPrint_any z _ _ _ w4 hwz ((hrz.below HB.out).below hb4)
   have HB4 : Hid (Below w.heap.size w w4) := HB.out.trans (hb4.mono HB.out.size)
   have z0 := hZ4.cell 0 rfl
   have z1 := hZ4.cell 1 rfl
   have z2 := hZ4.cell 2 rfl
   have z3 := hZ4.cell 3 rfl
   have z4 := hZ4.cell 4 rfl
   have z5 := hZ4.cell 5 rfl
   have hpl := Rd.pr_len z
   obtain ⟨R, hR⟩ : ∃ R, Rd.pr z = R := ⟨_, rfl⟩
   rw [hR] at hc hst hea hat hpl
   obtain ⟨tx, c⟩ := R
   unfold Rd.PrV at hc
   simp only at hc hst hea hat hpl
   have HST := Lib.hid hst
   have HEA := Lib.hid hea
   have HAT := Lib.hid hat
   have hc1 := fun w => Rd.rdCat tx [10] (by omega) (by simp) w
   have hc2 := fun w => Rd.rdCat AC (tx ++ [10]) (by have := HACL.out; omega) (by rw [List.length_append]; simp; omega) w
   clear hsix hrz hwz hst hea hat hreps hgl hz hb4 hs4 hZ4 hkl hR hpl
   go_wp2_with fail
   refine hc.mono ?_
   rintro e w5 ⟨rfl, hb5⟩
   have HB5 : Hid (Below w.heap.size w w5) := HB4.out.trans (hb5.mono HB4.out.size)
   clear hc hb5 z0 z1 z2 z3 z4 z5 y0 y1 y2 y3 y4 y5 hw4
   by_cases hc0 : c = 0
   ·subst hc0
    have h1 : ((0 : Int) != 0) = false := rfl
    have HAN := Lib.hid (HAT.out rfl)
    go_wp2
    go_roundw
    case rel => exact ⟨k + 1, by rw [HST.out, HAC.out], by simp, by omega, HAN, HB5⟩
    case measure => simp [intOf]; omega
   ·have h1 : (c != 0) = true := by simpa using hc0
    have HE : Hid (Rd.lns l = ([], c)) := by show _ = _; unfold Rd.lns; rw [if_neg (by have := HN.out; omega), HEA.out hc0, if_pos hc0]
    clear hc0
    go_wp2
    go_ret2
    exact ⟨by rw [HE.out]; rfl, HB5.out⟩
  ·have hge : (N : Int) ≤ (k : Int) := by omega
   have htk : l.take k = l := List.take_of_length_le (by have := HN.out; omega)
   have hA := HA.out
   rw [htk] at hA
   have hAC := HAC.out
   rw [htk] at hAC
   have he := Rd.lerr_no l hA
   have hN2 : ¬ 256 < l.length := by have := HN.out; omega
   by_cases h16 : 16384 < AC.length
   ·have h16i : (16384 : Int) < (AC.length : Int) := by omega
    have HE : Hid (Rd.lns l = ([], 3)) := by show _ = _; unfold Rd.lns; rw [if_neg hN2, he, if_neg (by simp), hAC, if_pos h16]
    clear h16 he hAC hA htk hN2
    go_wp2
    go_ret2
    exact ⟨by rw [HE.out]; rfl, HB.out⟩
   ·have h16i : ¬ (16384 : Int) < (AC.length : Int) := by omega
    have HE : Hid (Rd.lns l = (AC, 0)) := by show _ = _; unfold Rd.lns; rw [if_neg hN2, he, if_neg (by simp), hAC, if_neg h16]
    clear h16 he hAC hA htk hN2
    go_wp2
    go_ret2
    exact ⟨by rw [HE.out]; rfl, HB.out⟩
end Go.Proofs.Ytcopdfihaheplaa
namespace Go.Proofs.Ytcopdfihaheplaa
open Go.RowKit
namespace Rd
open Dt Lx
def awS : ByteArray := ⟨#[40, 97, 32, 46, 32, 40, 98, 32, 46, 32, 99, 41, 41]⟩
def awT : ByteArray := ⟨#[40, 97, 32, 46, 32, 98, 32, 99, 41]⟩
def awD : D := .mk 7 0 ⟨#[]⟩ [] [.mk 5 0 ⟨#[97]⟩ [] [] [], .mk 5 0 ⟨#[98]⟩ [] [] []] [.mk 5 0 ⟨#[99]⟩ [] [] []]
set_option maxRecDepth 100000 in
theorem aw_one : one awS.data.toList = (awD, 0) := by kernel_rfl
set_option maxRecDepth 100000 in
theorem aw_read : read awT.data.toList = ([], 7, 40) := by kernel_rfl
set_option maxRecDepth 100000 in
theorem aw_pr : pr awD = ([40, 97, 32, 98, 32, 46, 32, 99, 41], 0) := by kernel_rfl
end Rd
end Go.Proofs.Ytcopdfihaheplaa
namespace Go.Proofs.Ytcopdfihaheplaa
open Go.RowKit
attribute [local go_sem] Oper.semAt_some
theorem Rd.aw_wf : Dt.Wf Rd.awD := by
 unfold Rd.awD
 simp [Dt.Wf, Dt.Wfs, ByteArray.size]
set_option maxRecDepth 100000 in
set_option maxHeartbeats 8000000 in
theorem rdAwake_any (w : World) :
  Calls Try.prog 7 #[] w fun e w' => e = .returned (.bool true) ∧ Below w.heap.size w w' := by
 have h1 : Calls Try.prog 10 #[.string ⟨#[40, 97, 32, 46, 32, 40, 98, 32, 46, 32, 99, 41, 41]⟩] w (Rd.OnePost (Rd.one Rd.awS.data.toList) w) := readOne_any Rd.awS w (by decide)
 rw [Rd.aw_one] at h1
 go_enter Try.func7, Try.ntmps7
 go_wp2_with fail
 refine h1.mono ?_
 rintro e w1 ⟨vm, vl, vt, rfl, hr1, hb1⟩
 obtain ⟨b1, m1, p1, b2, m2, p2, b3, m3, p3, rfl, rfl, rfl⟩ := hr1.forms
 simp only at hr1 ⊢
 obtain ⟨d, hd⟩ : ∃ d, Rd.awD = d := ⟨_, rfl⟩
 have hwf := Rd.aw_wf
 have hpr := Rd.aw_pr
 rw [hd] at hr1 hwf hpr ⊢
 obtain ⟨w2, hw2⟩ : ∃ w2, w1.alloc (.cells #[.int .i64 d.k, .int .i64 d.n, .string d.s, .slice b1 m1 p1, .slice b2 m2 p2, .slice b3 m3 p3] 25) = w2 := ⟨_, rfl⟩
 obtain ⟨hb2, hs2⟩ := new_below hw2
 have hX2 := Hp.new hw2
 have hp := rdPrint_any d _ _ _ w2 hwf (hr1.below hb2)
 rw [hpr, show Rd.PrV ([40, 97, 32, 98, 32, 46, 32, 99, 41], 0) = .tuple #[.string ⟨#[40, 97, 32, 98, 32, 46, 32, 99, 41]⟩, .int .i64 0] from rfl] at hp
 have HB2 : Hid (Below w.heap.size w w2) := hb1.trans (hb2.mono hb1.size)
 obtain ⟨X, hX⟩ : ∃ X, w1.heap.size = X := ⟨_, rfl⟩
 rw [hX] at hX2
 have x0 := hX2.cell 0 rfl
 have x1 := hX2.cell 1 rfl
 have x2 := hX2.cell 2 rfl
 have x3 := hX2.cell 3 rfl
 have x4 := hX2.cell 4 rfl
 have x5 := hX2.cell 5 rfl
 clear h1 hr1 hb1 hb2 hs2 hX2 hwf hpr hd
 go_wp2_with fail
 refine hp.mono ?_
 rintro e w3 ⟨rfl, hb3⟩
 have HB3 : Hid (Below w.heap.size w w3) := HB2.out.trans (hb3.mono HB2.out.size)
 have h3 : Calls Try.prog 14 #[.string ⟨#[40, 97, 32, 46, 32, 98, 32, 99, 41]⟩] w3 (Rd.ReadPost (Rd.read Rd.awT.data.toList) w3) := readRead_any Rd.awT w3 (by decide)
 rw [Rd.aw_read] at h3
 clear hp hb3 hw2 x0 x1 x2 x3 x4 x5
 go_wp2_with fail
 refine h3.mono ?_
 rintro e w4 ⟨a, c, fs, rfl, -, -, hb4⟩
 have HB4 : Hid (Below w.heap.size w w4) := HB3.out.trans (hb4.mono HB3.out.size)
 clear h3 hb4
 go_wp2
 go_ret
 exact ⟨rfl, HB4.out⟩
end Go.Proofs.Ytcopdfihaheplaa
namespace Go.Proofs.Ytcopdfihaheplaa
open Go.RowKit
namespace Dt
mutual
def strip (b : Bool) : D → D
 | .mk k n s m l t => .mk k n s (if b then m else []) (strips b l) (strips b t)
def strips (b : Bool) : List D → List D
 | [] => []
 | d :: r => strip b d :: strips b r
end
def mrk (b : Bool) (x : D) : List Int := if b then x.m else []
def ElS (w : World) (X f : Nat) (v : Value) (g o : Nat) (y : D) (a b c : Value) : Prop := w.cell? ⟨X, f, none⟩ = some v ∧ Six w g o y a b c
theorem ElS.keep {S : Nat → Prop} {w w' : World} {X f : Nat} {v : Value} {g o : Nat} {y : D} {a b c : Value} (h : ElS w X f v g o y a b c) (hk : Keep S w w') (hX : ¬ S X) (hg : ¬ S g) : ElS w' X f v g o y a b c :=
 ⟨(hk.cell f (block_lt_of_cell h.1) hX).trans h.1, h.2.keep hk (block_lt_of_cell h.2.c0) hg⟩
def Mid4 (b : Bool) (w : World) (x : D) (vm vl vt : Value) (wx : World) : Prop := ∃ a c, Box wx (w.heap.size + 1 + 1) x (.slice a (mrk b x).length c) (.slice none 0 0) (.slice none 0 0) ∧ IRow (fun k => w.heap.size + 1 + 1 < k) wx (.slice a (mrk b x).length c) (mrk b x) ∧ Box wx w.heap.size x vm vl vt ∧ Box wx (w.heap.size + 1) (.mk 0 0 ⟨#[]⟩ [] [] []) (.slice none 0 0) (.slice none 0 0) (.slice none 0 0) ∧ (∀ j, wx.frozen? ⟨w.heap.size + 1, j, none⟩ = false) ∧ (∀ j, wx.frozen? ⟨w.heap.size + 1 + 1, j, none⟩ = false) ∧ Below w.heap.size w wx ∧ w.heap.size + 1 + 1 < wx.heap.size
theorem Mid4.start {w w1 w2 w3 : World} {x : D} {vm vl vt : Value} (h1 : w.alloc (.cells #[.int .i64 x.k, .int .i64 x.n, .string x.s, vm, vl, vt] 25) = w1) (h2 : w1.alloc (.cells #[.int .i64 0, .int .i64 0, .string ⟨#[]⟩, .slice none 0 0, .slice none 0 0, .slice none 0 0] 25) = w2) (h3 : w2.alloc (.cells #[.int .i64 x.k, .int .i64 x.n, .string x.s, .slice none 0 0, .slice none 0 0, .slice none 0 0] 25) = w3) :
  Box w3 (w.heap.size + 1 + 1) x (.slice none 0 0) (.slice none 0 0) (.slice none 0 0) ∧ Box w3 w.heap.size x vm vl vt ∧ Box w3 (w.heap.size + 1) (.mk 0 0 ⟨#[]⟩ [] [] []) (.slice none 0 0) (.slice none 0 0) (.slice none 0 0) ∧ (∀ j, w3.frozen? ⟨w.heap.size + 1, j, none⟩ = false) ∧ (∀ j, w3.frozen? ⟨w.heap.size + 1 + 1, j, none⟩ = false) ∧ Below w.heap.size w w3 ∧ w3.heap.size = w.heap.size + 1 + 1 + 1 ∧ w1.heap.size = w.heap.size + 1 ∧ w2.heap.size = w.heap.size + 1 + 1 ∧ Box w1 w.heap.size x vm vl vt ∧ Box w2 w.heap.size x vm vl vt := by
 have s1 : w1.heap.size = w.heap.size + 1 := by rw [← h1]; simp
 have s2 : w2.heap.size = w.heap.size + 1 + 1 := by rw [← h2, World.size_alloc, s1]
 have s3 : w3.heap.size = w.heap.size + 1 + 1 + 1 := by rw [← h3, World.size_alloc, s2]
 have hb1 : Below w.heap.size w w1 := by rw [← h1]; exact (Below.refl _ _).alloc (Nat.le_refl _) _
 have hb2 : Below w1.heap.size w1 w2 := by rw [← h2]; exact (Below.refl _ _).alloc (Nat.le_refl _) _
 have hb3 : Below w2.heap.size w2 w3 := by rw [← h3]; exact (Below.refl _ _).alloc (Nat.le_refl _) _
 have a1 := six_new w x.k x.n x.s vm vl vt 25
 rw [h1] at a1
 have B1 : Box w1 w.heap.size x vm vl vt := ⟨a1 0 (by omega), a1 1 (by omega), a1 2 (by omega), a1 3 (by omega), a1 4 (by omega), a1 5 (by omega)⟩
 have a2 := six_new w1 0 0 ⟨#[]⟩ (.slice none 0 0) (.slice none 0 0) (.slice none 0 0) 25
 rw [h2, s1] at a2
 have B2 : Box w2 (w.heap.size + 1) (.mk 0 0 ⟨#[]⟩ [] [] []) (.slice none 0 0) (.slice none 0 0) (.slice none 0 0) := ⟨a2 0 (by omega), a2 1 (by omega), a2 2 (by omega), a2 3 (by omega), a2 4 (by omega), a2 5 (by omega)⟩
 have a3 := six_new w2 x.k x.n x.s (.slice none 0 0) (.slice none 0 0) (.slice none 0 0) 25
 rw [h3, s2] at a3
 have B3 : Box w3 (w.heap.size + 1 + 1) x (.slice none 0 0) (.slice none 0 0) (.slice none 0 0) := ⟨a3 0 (by omega), a3 1 (by omega), a3 2 (by omega), a3 3 (by omega), a3 4 (by omega), a3 5 (by omega)⟩
 have f2 : ∀ j, w2.frozen? ⟨w.heap.size + 1, j, none⟩ = false := fun j => by
  have := frz_new w1 #[.int .i64 0, .int .i64 0, .string ⟨#[]⟩, .slice none 0 0, .slice none 0 0, .slice none 0 0] 25 j
  rw [h2, s1] at this; exact this
 have f3 : ∀ j, w3.frozen? ⟨w.heap.size + 1 + 1, j, none⟩ = false := fun j => by
  have := frz_new w2 #[.int .i64 x.k, .int .i64 x.n, .string x.s, .slice none 0 0, .slice none 0 0, .slice none 0 0] 25 j
  rw [h3, s2] at this; exact this
 exact ⟨B3, (B1.below hb2).below hb3, B2.below hb3, fun j => (hb3.frozen (p := ⟨w.heap.size + 1, j, none⟩) (by show w.heap.size + 1 < _; omega)).trans (f2 j), f3, (hb1.trans (hb2.mono (by omega))).trans (hb3.mono (by omega)), s3, s1, s2, B1, B1.below hb2⟩
end Dt
end Go.Proofs.Ytcopdfihaheplaa
namespace Go.Proofs.Ytcopdfihaheplaa
open Go.RowKit
attribute [local go_sem] Oper.semAt_some
namespace Rd
open Dt
end Rd
def Rd.SmallP (w : World) (e : Ending) (w' : World) : Prop := (∃ b, e = .returned (.bool b)) ∧ Below w.heap.size w w'
theorem Rd.SmallP.of {w w' : World} (b : Bool) (h : Below w.heap.size w w') : Rd.SmallP w (.returned (.bool b)) w' := ⟨⟨b, rfl⟩, h⟩
set_option maxRecDepth 100000 in
set_option maxHeartbeats 8000000 in
theorem small04_any {F : Nat → Prop} (x : Dt.D) (vm vl vt : Value) (w : World) (_hW : Dt.Wf x) (hR : Dt.Rep F w x vm vl vt) :
  Calls Try.prog 8 #[.agg #[.int .i64 x.k, .int .i64 x.n, .string x.s, vm, vl, vt]] w (Rd.SmallP w) := by
 obtain ⟨b1, m1, p1, b2, m2, p2, b3, m3, p3, rfl, rfl, rfl⟩ := hR.forms
 obtain ⟨w1, hw1⟩ : ∃ w1, w.alloc (.cells #[.int .i64 x.k, .int .i64 x.n, .string x.s, .slice b1 m1 p1, .slice b2 m2 p2, .slice b3 m3 p3] 25) = w1 := ⟨_, rfl⟩
 obtain ⟨hb1, hs1⟩ := new_below hw1
 have hX := Hp.new hw1
 obtain ⟨X, hXe⟩ : ∃ X, w.heap.size = X := ⟨_, rfl⟩
 rw [hXe] at hX
 have x2 := hX.cell 2 rfl
 have x3 := hX.cell 3 rfl
 have x4 := hX.cell 4 rfl
 have x5 := hX.cell 5 rfl
 have HB := Lib.hid hb1
 clear hX hb1 hs1 hR
 by_cases h1 : (x.s.size : Int) ≤ 5000
 ·by_cases h2 : (m1 : Int) ≤ 5000
  ·by_cases h3 : (m2 : Int) ≤ 5000
   ·by_cases h4 : (m3 : Int) ≤ 5000
    all_goals (
     go_enter Try.func8, Try.ntmps8
     go_wp2
     go_ret
     exact Rd.SmallP.of _ HB.out)
   ·go_enter Try.func8, Try.ntmps8
    go_wp2
    go_ret
    exact Rd.SmallP.of _ HB.out
  ·go_enter Try.func8, Try.ntmps8
   go_wp2
   go_ret
   exact Rd.SmallP.of _ HB.out
 ·go_enter Try.func8, Try.ntmps8
  go_wp2
  go_ret
  exact Rd.SmallP.of _ HB.out
end Go.Proofs.Ytcopdfihaheplaa
namespace Go.Proofs.Ytcopdfihaheplaa
open Go.ChangeShapes Go.WideShapes Go.ChangeAt Go.RowKit
open Go.ChangeMaps (open_string shut_string)
set_option maxRecDepth 100000 in
theorem Rd.open_datum {H : Type} {enc : TypeId × Value → H} {w : World} {base : Nat} {spare : Nat → Bool} {held : Bool} {r : Reach} {b0 : Nat} {v : Value} {d : DataW H} {p : List MemPlace}
  (hv : Value.okWide Try.prog w r b0 25 v) (h : DataW.Trod enc Try.prog w base spare held 25 v d p) (hf : Dt.Fits Try.prog 25 d) :
  ∃ (x : Dt.D) (vm vl vt : Value), v = .agg #[.int .i64 x.k, .int .i64 x.n, .string x.s, vm, vl, vt] ∧ Dt.Wf x ∧ Dt.Rep (fun _ => True) w x vm vl vt := by
 obtain ⟨cs, rfl, hsz⟩ := okWide_struct Try.underlying25 hv
 obtain ⟨fuel, hfu⟩ := h
 obtain ⟨x, vm, vl, vt, e, hw, hr⟩ := Dt.open_fuel fuel _ _ hfu hf
 obtain ⟨l⟩ := cs
 have e' : l = [.int .i64 x.k, .int .i64 x.n, .string x.s, vm, vl, vt] := by simpa [Value.cells] using e
 subst e'
 exact ⟨x, vm, vl, vt, rfl, hw, hr⟩
set_option maxRecDepth 100000 in
theorem Rd.open_datas {H : Type} {enc : TypeId × Value → H} {w : World} {base : Nat} {spare : Nat → Bool} {held : Bool} {r : Reach} {b0 : Nat} {v : Value} {d : DataW H} {p : List MemPlace}
  (hv : Value.okWide Try.prog w r b0 23 v) (h : DataW.Trod enc Try.prog w base spare held 23 v d p) (hf : Dt.Fits Try.prog 23 d) :
  ∃ l : List Dt.D, Dt.Row (fun _ => True) w v l ∧ Dt.Wfs l := by
 obtain ⟨a0, len0, cap0, rfl⟩ := okWide_slice Try.underlying23 hv
 obtain ⟨fuel, hfu⟩ := h
 have h1 : DataW.trod enc Try.prog w base spare held fuel 23 [.slice a0 len0 cap0] = some (d, p) := hfu
 obtain ⟨l, h2, -, h3⟩ := Dt.open_data h1 hf (fun n _ cs y g1 g2 => Dt.open_fuel n cs y g1 g2)
 exact ⟨l, h2, h3⟩
end Go.Proofs.Ytcopdfihaheplaa
namespace Go.Proofs.Ytcopdfihaheplaa
open Go.RowKit
attribute [local go_sem] Oper.semAt_some
set_option maxRecDepth 100000 in
theorem rSign_any (k : Nat) (hk : k < 4) (w : World) :
  Calls Try.prog 72 #[.int .i64 (4 + (k : Int))] w fun e w' => e = .returned (.string (Rd.sgn (4 + (k : Int)))) ∧ w' = w := by
 obtain rfl | rfl | rfl | rfl : k = 0 ∨ k = 1 ∨ k = 2 ∨ k = 3 := by omega
 all_goals (
  go_enter Try.func72, Try.ntmps72
  go_wp2
  go_ret
  exact ⟨rfl, rfl⟩)
namespace Rd
def WordP (x : List UInt8) (w : World) (e : Ending) (w' : World) : Prop := ∃ v, e = .returned v ∧ Ap.Src w' v x.length (Lib.byteCells x) ∧ Below w.heap.size w w'
end Rd
set_option maxRecDepth 100000 in
set_option maxHeartbeats 8000000 in
theorem rWord_any (k n c : Int) (s : ByteArray) (x : List UInt8) (w : World) (HT : Hid (∀ W, Calls Try.prog 71 #[.agg #[.int .i64 k, .int .i64 0, .int .i64 0, .int .i64 n, .string s]] W fun e w' => e = .returned (.tuple #[.string ⟨x.toArray⟩, .int .i64 c]) ∧ Below W.heap.size W w')) :
  Calls Try.prog 47 #[.agg #[.int .i64 k, .int .i64 0, .int .i64 0, .int .i64 n, .string s]] w (Rd.WordP x w) := by
 obtain ⟨w1, hw1⟩ : ∃ w1, w.alloc (.cells #[.int .i64 k, .int .i64 0, .int .i64 0, .int .i64 n, .string s] 47) = w1 := ⟨_, rfl⟩
 obtain ⟨hb1, hs1⟩ := new_below hw1
 have hT1 := Hp.new hw1
 obtain ⟨X, hX⟩ : ∃ X, w.heap.size = X := ⟨_, rfl⟩
 rw [hX] at hT1
 have q0 := hT1.cell 0 rfl
 have q1 := hT1.cell 1 rfl
 have q2 := hT1.cell 2 rfl
 have q3 := hT1.cell 3 rfl
 have q4 := hT1.cell 4 rfl
 have HB1 := Lib.hid hb1
 have hc := HT.out w1
 clear hT1 hb1 hs1 HT
 go_enter Try.func47, Try.ntmps47
 go_wp2_with fail
 refine hc.mono ?_
 rintro e w2 ⟨rfl, hb2⟩
 have HB2 : Hid (Below w.heap.size w w2) := HB1.out.trans (hb2.mono HB1.out.size)
 have hconv := run_bytes_of_string (P := Try.prog) w2 9 53 5 ⟨x.toArray⟩ Try.underlying9 Try.underlying53 Try.underlying5
 obtain ⟨C, hC⟩ : ∃ C, grownCap w2 (⟨x.toArray⟩ : ByteArray).size 0 5 = C := ⟨_, rfl⟩
 rw [hC] at hconv
 obtain ⟨w3, hw3⟩ : ∃ w3, w2.drew.alloc (.cells (bytesRow ⟨x.toArray⟩ C) 5 ((bytesRow ⟨x.toArray⟩ C).size, (bytesRow ⟨x.toArray⟩ C).size + 1)) = w3 := ⟨_, rfl⟩
 rw [hw3] at hconv
 have HE : Hid (Rd.WordP x w (.returned (.slice (some ⟨w2.heap.size, 0, none⟩) (⟨x.toArray⟩ : ByteArray).size C)) w3) := by
  refine ⟨_, rfl, .inr ⟨_, _, rfl, fun j u hu => ?_⟩, ?_⟩
  ·have hlt : j < x.length := by have := (List.getElem?_eq_some_iff.1 hu).1; simpa [Lib.byteCells] using this
   have hh : w3.heap[w2.heap.size]? = some (.cells (bytesRow ⟨x.toArray⟩ C) 5 ((bytesRow ⟨x.toArray⟩ C).size, (bytesRow ⟨x.toArray⟩ C).size + 1)) := by
    rw [← hw3]
    show (w2.heap.push _)[w2.heap.size]? = _
    simp
   rw [Addr.add_mid, Nat.zero_add, Lib.cell_of_heap hh, bytesRow_at ⟨x.toArray⟩ C j (by simpa using hlt), ← hu]
   simp [Lib.byteCells, List.getElem?_eq_getElem hlt]
  ·rw [← hw3]
   exact HB2.out.trans (((Below.refl _ w2).drew.alloc (Nat.le_refl _) _).mono HB2.out.size)
 clear hc hb2 hw1 q0 q1 q2 q3 q4 hC hw3 HB1 HB2
 go_wp2
 go_ret
 exact HE.out
set_option maxRecDepth 100000 in
set_option maxHeartbeats 8000000 in
theorem rShort_any {F : Nat → Prop} (x : Dt.D) (vm vl vt : Value) (w : World) (hR : Dt.Rep F w x vm vl vt) :
  Calls Try.prog 48 #[.agg #[.int .i64 x.k, .int .i64 x.n, .string x.s, vm, vl, vt]] w fun e w' => e = .returned (.int .i64 (Rd.shortL x.k x.l)) ∧ Below w.heap.size w w' := by
 obtain ⟨w1, hw1⟩ : ∃ w1, w.alloc (.cells #[.int .i64 x.k, .int .i64 x.n, .string x.s, vm, vl, vt] 25) = w1 := ⟨_, rfl⟩
 obtain ⟨hb1, hs1⟩ := new_below hw1
 have hX1 := Hp.new hw1
 have hrow := ((Dt.rep_iff _ _ _ _ _ _).1 (hR.below hb1)).2.1
 have HFORM : Hid (∃ b1 m1 p1 b3 m3 p3, vm = .slice b1 m1 p1 ∧ vt = .slice b3 m3 p3) := by
  obtain ⟨b1, m1, p1, b2, m2, p2, b3, m3, p3, e1, -, e3⟩ := hR.forms
  exact ⟨_, _, _, _, _, _, e1, e3⟩
 obtain ⟨R, hRR⟩ : ∃ R, Rd.shortL x.k x.l = R := ⟨_, rfl⟩
 obtain ⟨L, hL⟩ : ∃ L, x.l = L := ⟨_, rfl⟩
 rw [hL] at hrow hRR
 rw [hL, hRR]
 clear hL hR hs1
 obtain ⟨al, cl, rfl, hcl, hcs⟩ := hrow
 obtain ⟨b1, m1, p1, b3, m3, p3, e1, e3⟩ : ∃ b1 m1 p1 b3 m3 p3, vm = .slice b1 m1 p1 ∧ vt = .slice b3 m3 p3 := HFORM.out
 subst e1 e3
 obtain ⟨X, hX⟩ : ∃ X, w.heap.size = X := ⟨_, rfl⟩
 rw [hX] at hX1
 have HX1 := Lib.hid hX1
 have x0 := hX1.cell 0 rfl
 have x4 := hX1.cell 4 rfl
 have HB1 := Lib.hid hb1
 clear hX1 hb1
 by_cases h6 : x.k = 6
 case neg =>
  have h6' : (x.k != 6) = true := by simpa using h6
  have HE : Hid (R = 0) := hRR.symm.trans ((Rd.short_cases x.k L).elim id (fun h => absurd h.1 h6))
  clear hRR hcs h6
  go_enter Try.func48, Try.ntmps48
  go_wp2
  go_ret
  rw [HE.out]
  exact ⟨rfl, HB1.out⟩
 have h6' : (x.k != 6) = false := by simpa using h6
 by_cases h2 : L.length = 2
 case neg =>
  have h2' : ((L.length : Int) != 2) = true := by simp; omega
  have HE : Hid (R = 0) := hRR.symm.trans ((Rd.short_cases x.k L).elim id (fun h => by obtain ⟨y, z, e, -⟩ := h.2.2.2; rw [e] at h2; exact absurd rfl h2))
  clear hRR hcs h6 h2
  go_enter Try.func48, Try.ntmps48
  go_wp2
  go_ret
  rw [HE.out]
  exact ⟨rfl, HB1.out⟩
 obtain ⟨y, z, rfl⟩ : ∃ y z, L = [y, z] := by
  match L, h2 with
  | [y, z], _ => exact ⟨y, z, rfl⟩
 obtain ⟨g, o, rfl, -, hgl, hreps⟩ := hcs (by simp)
 obtain ⟨um, ul, ut, hsix, -⟩ := hreps.at 0 (by simp)
 rw [Nat.zero_mul, Nat.add_zero] at hsix
 have y0 := hsix.c0
 have y2 := hsix.c2
 simp only [List.getElem_cons_zero] at y0 y2
 rw [show ([y, z] : List Dt.D).length = 2 from rfl] at x4 HX1 hw1
 clear hreps hsix h2 hgl
 by_cases h5 : y.k = 5
 case neg =>
  have h5' : (y.k != 5) = true := by simpa using h5
  have HE : Hid (R = 0) := hRR.symm.trans ((Rd.short_cases x.k [y, z]).elim id (fun h => by obtain ⟨y', z', e, h7, -⟩ := h.2.2.2; cases e; exact absurd h7 h5))
  clear hRR hcs h6 h5
  go_enter Try.func48, Try.ntmps48
  go_wp2
  go_ret
  rw [HE.out]
  exact ⟨rfl, HB1.out⟩
 have h5' : (y.k != 5) = false := by simpa using h5
 have HRR : Hid (Rd.shortL x.k [y, z] = R) := hRR
 have H56 : Hid (x.k = 6 ∧ y.k = 5) := ⟨h6, h5⟩
 clear hRR hcs h6 h5
 go_enter Try.func48, Try.ntmps48
 go_wp2_with fail
 go_loopw [3] (fun vi wr => ∃ k : Nat, vi = .int .i64 (4 + (k : Int)) ∧ k ≤ 4 ∧ Hid (∀ i, i < k → y.s ≠ Rd.sgn (4 + (i : Int))) ∧ Hid (Below w1.heap.size w1 wr)) (fun vi _ => 8 - (intOf vi).toNat)
 case atStart => exact ⟨0, rfl, by omega, fun i hi => absurd hi (by omega), Below.refl _ _⟩
 case round =>
  obtain ⟨k, rfl, hk, HNE, HWR⟩ := hrel
  have HKP : Hid (∀ W, Below w1.heap.size w1 W → W.cell? ⟨X, 4, none⟩ = some (.slice (some ⟨g, o, none⟩) 2 cl) ∧ W.cell? ⟨g, o + 2, none⟩ = some (.string y.s)) := fun W hb =>
   ⟨(hb.cell (p := ⟨X, 4, none⟩) (block_lt_of_cell x4)).trans x4, (hb.cell (p := ⟨g, o + 2, none⟩) (block_lt_of_cell y2)).trans y2⟩
  have HBE : Hid (Below w.heap.size w wr) := HB1.out.trans (HWR.out.mono HB1.out.size)
  by_cases hlt : k < 4
  ·have hki : (4 : Int) + (k : Int) ≤ 7 := by omega
   have hk0 : (0 : Int) ≤ (k : Int) := by omega
   have HBD : Hid (Below w1.heap.size w1 wr.drew) := HWR.out.drew
   have HS0 := HKP.out _ HBD.out
   by_cases he : y.s = Rd.sgn (4 + (k : Int))
   ·have HE : Hid (R = 4 + (k : Int)) := HRR.out.symm.trans (Rd.short_at H56.out.1 H56.out.2 hlt HNE.out he)
    have he2 : (y.s.toList == (Rd.sgn (4 + (k : Int))).toList) = true := by rw [he]; simp
    clear x4 y2 he hw1 h6' h5' x0 y0
    go_upto_region 6 with fail
    refine wp_region_noPanic ?_
    refine wp_region_held_drew (S := fun W => W.cell? ⟨X, 4, none⟩ = some (.slice (some ⟨g, o, none⟩) 2 cl) ∧ W.cell? ⟨g, o + 2, none⟩ = some (.string y.s)) (by kernel_rfl) HS0 (fun hHeld => ?_)
    refine wpAnyH_take (i := 0) (oi := ⟨_, _, _, _, _, _⟩) (v := ?_) rfl (by kernel_rfl) (by kernel_rfl) (by kernel_rfl) (fun _ _ _ h => h) (Or.inl ⟨by rfl, ?_⟩) (by assumption) ?_
    rotate_left
    ·intro w hSw
     clear hSw
     go_simp
     try with_reducible rfl
    simp only [Act.put, List.setIfInBounds_toArray, List.set_cons_zero, List.set_cons_succ]
    refine wpAnyH_take (i := 1) (oi := ⟨_, _, _, _, _, _⟩) (v := ?_) rfl (by kernel_rfl) (by kernel_rfl) (by kernel_rfl) (fun _ _ _ h => h) (Or.inl ⟨by rfl, ?_⟩) (by assumption) ?_
    rotate_left
    ·intro w hSw
     obtain ⟨x4, y2⟩ := hSw
     go_simp
     try with_reducible rfl
    simp only [Act.put, List.setIfInBounds_toArray, List.set_cons_zero, List.set_cons_succ]
    refine wpAnyH_take (i := 2) (oi := ⟨_, _, _, _, _, _⟩) (v := ?_) rfl (by kernel_rfl) (by kernel_rfl) (by kernel_rfl) (fun _ _ _ h => h) (Or.inl ⟨by rfl, ?_⟩) (by assumption) ?_
    rotate_left
    ·intro w hSw
     clear hSw
     go_simp
     try with_reducible rfl
    simp only [Act.put, List.setIfInBounds_toArray, List.set_cons_zero, List.set_cons_succ]
    refine wpAnyH_take (i := 3) (oi := ⟨_, _, _, _, _, _⟩) (v := ?_) rfl (by kernel_rfl) (by kernel_rfl) (by kernel_rfl) (fun _ _ _ h => h) (Or.inl ⟨by rfl, ?_⟩) (by assumption) ?_
    rotate_left
    ·intro w hSw
     clear hSw
     go_simp
     try with_reducible rfl
    simp only [Act.put, List.setIfInBounds_toArray, List.set_cons_zero, List.set_cons_succ]
    refine wpAnyH_take (i := 4) (oi := ⟨_, _, _, _, _, _⟩) (v := ?_) rfl (by kernel_rfl) (by kernel_rfl) (by kernel_rfl) (fun _ _ _ h => h) (Or.inl ⟨by rfl, ?_⟩) (by assumption) ?_
    rotate_left
    ·intro w hSw
     obtain ⟨x4, y2⟩ := hSw
     go_simp
     try with_reducible rfl
    simp only [Act.put, List.setIfInBounds_toArray, List.set_cons_zero, List.set_cons_succ]
    refine wpAnyH_take (i := 5) (oi := ⟨_, _, _, _, _, _⟩) (v := ?_) rfl (by kernel_rfl) (by kernel_rfl) (by kernel_rfl) (fun _ _ _ h => h) (Or.inl ⟨by rfl, ?_⟩) (by assumption) ?_
    rotate_left
    ·intro w hSw
     clear hSw
     go_simp
     try with_reducible rfl
    simp only [Act.put, List.setIfInBounds_toArray, List.set_cons_zero, List.set_cons_succ]
    refine wpAnyH_ready (rs := [6]) (by kernel_rfl) (by simp) ?_
    refine AllReadyH.cons (o := ⟨_, _, _, _, _, _⟩) rfl (fun K hK => ?_) AllReadyH.nil
    go_simp
    refine (rSign_any k hlt _).mono ?_
    rintro e w8 ⟨rfl, rfl⟩
    dsimp only
    refine hK.out _ _ ?_ (fun hHeld => ?_)
    ·exact HKP.out _ HBD.out
    clear hK K
    try simp only [Act.put, List.setIfInBounds_toArray, List.set_cons_zero, List.set_cons_succ]
    refine wpAnyH_take (i := 7) (oi := ⟨_, _, _, _, _, _⟩) (v := .bool true) rfl (by kernel_rfl) (by kernel_rfl) (by kernel_rfl) (fun _ _ _ h => h) (Or.inl ⟨by rfl, ?_⟩) (by assumption) ?_
    ·intro w hSw
     clear hSw
     go_simp
     try with_reducible rfl
    simp only [Act.put, List.setIfInBounds_toArray, List.set_cons_zero, List.set_cons_succ]
    refine wpAnyH_done (by kernel_rfl) ?_ _
    refine NoPanic.normal ?_
    clear HS0 HKP
    go_wp2
    go_ret
    rw [HE.out]
    exact ⟨rfl, HBE.out.drew⟩
   ·have he' : (y.s.toList == (Rd.sgn (4 + (k : Int))).toList) = false := by
     rw [ByteArray.toList_eq, ByteArray.toList_eq, beq_eq_false_iff_ne]
     intro e
     exact he (bytes_eq (Array.toList_inj.1 e))
    have HN : Hid (∀ i, i < k + 1 → y.s ≠ Rd.sgn (4 + (i : Int))) := fun i hi => by
     rcases Nat.lt_succ_iff_lt_or_eq.1 hi with hi | rfl
     ·exact HNE.out i hi
     ·exact he
    clear x4 y2 he hw1 h6' h5' x0 y0
    go_upto_region 6 with fail
    refine wp_region_noPanic ?_
    refine wp_region_held_drew (S := fun W => W.cell? ⟨X, 4, none⟩ = some (.slice (some ⟨g, o, none⟩) 2 cl) ∧ W.cell? ⟨g, o + 2, none⟩ = some (.string y.s)) (by kernel_rfl) HS0 (fun hHeld => ?_)
    refine wpAnyH_take (i := 0) (oi := ⟨_, _, _, _, _, _⟩) (v := ?_) rfl (by kernel_rfl) (by kernel_rfl) (by kernel_rfl) (fun _ _ _ h => h) (Or.inl ⟨by rfl, ?_⟩) (by assumption) ?_
    rotate_left
    ·intro w hSw
     clear hSw
     go_simp
     try with_reducible rfl
    simp only [Act.put, List.setIfInBounds_toArray, List.set_cons_zero, List.set_cons_succ]
    refine wpAnyH_take (i := 1) (oi := ⟨_, _, _, _, _, _⟩) (v := ?_) rfl (by kernel_rfl) (by kernel_rfl) (by kernel_rfl) (fun _ _ _ h => h) (Or.inl ⟨by rfl, ?_⟩) (by assumption) ?_
    rotate_left
    ·intro w hSw
     obtain ⟨x4, y2⟩ := hSw
     go_simp
     try with_reducible rfl
    simp only [Act.put, List.setIfInBounds_toArray, List.set_cons_zero, List.set_cons_succ]
    refine wpAnyH_take (i := 2) (oi := ⟨_, _, _, _, _, _⟩) (v := ?_) rfl (by kernel_rfl) (by kernel_rfl) (by kernel_rfl) (fun _ _ _ h => h) (Or.inl ⟨by rfl, ?_⟩) (by assumption) ?_
    rotate_left
    ·intro w hSw
     clear hSw
     go_simp
     try with_reducible rfl
    simp only [Act.put, List.setIfInBounds_toArray, List.set_cons_zero, List.set_cons_succ]
    refine wpAnyH_take (i := 3) (oi := ⟨_, _, _, _, _, _⟩) (v := ?_) rfl (by kernel_rfl) (by kernel_rfl) (by kernel_rfl) (fun _ _ _ h => h) (Or.inl ⟨by rfl, ?_⟩) (by assumption) ?_
    rotate_left
    ·intro w hSw
     clear hSw
     go_simp
     try with_reducible rfl
    simp only [Act.put, List.setIfInBounds_toArray, List.set_cons_zero, List.set_cons_succ]
    refine wpAnyH_take (i := 4) (oi := ⟨_, _, _, _, _, _⟩) (v := ?_) rfl (by kernel_rfl) (by kernel_rfl) (by kernel_rfl) (fun _ _ _ h => h) (Or.inl ⟨by rfl, ?_⟩) (by assumption) ?_
    rotate_left
    ·intro w hSw
     obtain ⟨x4, y2⟩ := hSw
     go_simp
     try with_reducible rfl
    simp only [Act.put, List.setIfInBounds_toArray, List.set_cons_zero, List.set_cons_succ]
    refine wpAnyH_take (i := 5) (oi := ⟨_, _, _, _, _, _⟩) (v := ?_) rfl (by kernel_rfl) (by kernel_rfl) (by kernel_rfl) (fun _ _ _ h => h) (Or.inl ⟨by rfl, ?_⟩) (by assumption) ?_
    rotate_left
    ·intro w hSw
     clear hSw
     go_simp
     try with_reducible rfl
    simp only [Act.put, List.setIfInBounds_toArray, List.set_cons_zero, List.set_cons_succ]
    refine wpAnyH_ready (rs := [6]) (by kernel_rfl) (by simp) ?_
    refine AllReadyH.cons (o := ⟨_, _, _, _, _, _⟩) rfl (fun K hK => ?_) AllReadyH.nil
    go_simp
    refine (rSign_any k hlt _).mono ?_
    rintro e w8 ⟨rfl, rfl⟩
    dsimp only
    refine hK.out _ _ ?_ (fun hHeld => ?_)
    ·exact HKP.out _ HBD.out
    clear hK K
    try simp only [Act.put, List.setIfInBounds_toArray, List.set_cons_zero, List.set_cons_succ]
    refine wpAnyH_take (i := 7) (oi := ⟨_, _, _, _, _, _⟩) (v := .bool false) rfl (by kernel_rfl) (by kernel_rfl) (by kernel_rfl) (fun _ _ _ h => h) (Or.inl ⟨by rfl, ?_⟩) (by assumption) ?_
    ·intro w hSw
     clear hSw
     go_simp
     try with_reducible rfl
    simp only [Act.put, List.setIfInBounds_toArray, List.set_cons_zero, List.set_cons_succ]
    refine wpAnyH_done (by kernel_rfl) ?_ _
    refine NoPanic.normal ?_
    clear HS0 HKP
    go_wp2
    go_roundw
    case rel => exact ⟨k + 1, by simp; omega, by omega, HN, HBD.out⟩
    case measure => simp [intOf]; omega
  ·obtain rfl : k = 4 := by omega
   have HE : Hid (R = 0) := HRR.out.symm.trans (Rd.short_no (fun i hi => HNE.out i hi))
   clear HKP
   go_wp2
   go_ret
   rw [HE.out]
   exact ⟨rfl, HBE.out⟩
end Go.Proofs.Ytcopdfihaheplaa
namespace Go.Proofs.Ytcopdfihaheplaa
namespace Rd
open Dt Lx
theorem mono : ∀ f, (∀ ts, pd f ts ≠ .out → pd (f + 1) ts = pd f ts) ∧ (∀ a k ts, pq f a k ts ≠ .out → pq (f + 1) a k ts = pq f a k ts) ∧ (∀ a acc ts, pl f a acc ts ≠ .out → pl (f + 1) a acc ts = pl f a acc ts) ∧ (∀ a acc ts, pt f a acc ts ≠ .out → pt (f + 1) a acc ts = pt f a acc ts) ∧ (∀ a acc ts, pv f a acc ts ≠ .out → pv (f + 1) a acc ts = pv f a acc ts) := by
 intro f
 induction f with
 | zero => exact ⟨fun _ h => absurd (by rw [pd]) h, fun _ _ _ h => absurd (by rw [pq]) h, fun _ _ _ h => absurd (by rw [pl]) h, fun _ _ _ h => absurd (by rw [pt]) h, fun _ _ _ h => absurd (by rw [pv]) h⟩
 | succ f ih =>
  obtain ⟨hd, hq, hl, ht, hv⟩ := ih
  refine ⟨fun ts h => ?_, fun a k ts h => ?_, fun a acc ts h => ?_, fun a acc ts h => ?_, fun a acc ts h => ?_⟩
  ·cases ts with
   | nil => exact absurd (by rw [pd]) h
   | cons t r =>
    rw [pd] at h ⊢
    conv => rhs; rw [pd]
    split
    ·rename_i h1; rw [if_pos h1] at h; exact hl _ _ _ h
    rename_i h1
    rw [if_neg h1] at h
    split
    ·rename_i h2; rw [if_pos h2] at h; exact hv _ _ _ h
    rename_i h2
    rw [if_neg h2] at h
    split
    ·rfl
    rename_i h3
    rw [if_neg h3] at h
    split
    ·rename_i h4; rw [if_pos h4] at h; exact hq _ _ _ h
    ·rfl
  ·cases ts with
   | nil => rw [pq, pq]
   | cons x r =>
    rw [pq] at h ⊢
    conv => rhs; rw [pq]
    have hn : pd f (x :: r) ≠ .out := fun e => by rw [e] at h; exact h rfl
    rw [hd _ hn]
  ·cases ts with
   | nil => rw [pl, pl]
   | cons x r =>
    rw [pl] at h ⊢
    conv => rhs; rw [pl]
    split
    ·rfl
    rename_i h1
    rw [if_neg h1] at h
    split
    ·rename_i h2; rw [if_pos h2] at h; exact ht _ _ _ h
    rename_i h2
    rw [if_neg h2] at h
    have hn : pd f (x :: r) ≠ .out := fun e => by rw [e] at h; exact h rfl
    rw [hd _ hn]
    cases hp : pd f (x :: r) with
    | ok d rest => rw [hp] at h; exact hl _ _ _ h
    | bad b e => rfl
    | out => rfl
  ·cases ts with
   | nil => rw [pt, pt]
   | cons x r =>
    rw [pt] at h ⊢
    conv => rhs; rw [pt]
    have hn : pd f (x :: r) ≠ .out := fun e => by rw [e] at h; exact h rfl
    rw [hd _ hn]
  ·cases ts with
   | nil => rw [pv, pv]
   | cons x r =>
    rw [pv] at h ⊢
    conv => rhs; rw [pv]
    split
    ·rfl
    rename_i h1
    rw [if_neg h1] at h
    have hn : pd f (x :: r) ≠ .out := fun e => by rw [e] at h; exact h rfl
    rw [hd _ hn]
    cases hp : pd f (x :: r) with
    | ok d rest => rw [hp] at h; exact hv _ _ _ h
    | bad b e => rfl
    | out => rfl
end Rd
end Go.Proofs.Ytcopdfihaheplaa
namespace Go.Proofs.Ytcopdfihaheplaa
namespace Lx
end Lx
namespace Rd
open Dt Lx
def Sf (ts : List PTok) : Res → Prop
 | .ok _ rest => ∀ p ∈ rest, p ∈ ts
 | _ => True
theorem Sf.mono {a b : List PTok} {r : Res} (h : Sf a r) (hab : ∀ p ∈ a, p ∈ b) : Sf b r := by
 cases r with
 | ok d rest => exact fun p hp => hab p (h p hp)
 | bad => trivial
 | out => trivial
end Rd
end Go.Proofs.Ytcopdfihaheplaa
namespace Go.Proofs.Ytcopdfihaheplaa.Lx
open Go.RowKit Go.Sort
end Go.Proofs.Ytcopdfihaheplaa.Lx
namespace Go.Proofs.Ytcopdfihaheplaa.Lx
open Go.RowKit Go.Sort
end Go.Proofs.Ytcopdfihaheplaa.Lx
namespace Go.Proofs.Ytcopdfihaheplaa.Lx
open Go.RowKit Go.Sort Tx
end Go.Proofs.Ytcopdfihaheplaa.Lx
namespace Go.Proofs.Ytcopdfihaheplaa.Lx
open Go.RowKit Go.Sort Tx
end Go.Proofs.Ytcopdfihaheplaa.Lx
namespace Go.Proofs.Ytcopdfihaheplaa.Lx
open Go.RowKit Go.Sort Tx
theorem text_of_ok (k n : Int) (s : List UInt8) (hk : kind k ≠ 0) (h : Tx.ok (kind k) n s = true) : ∃ x, Tx.text k n s = some x := by
 unfold Tx.text
 rw [if_pos hk, if_pos h]
 exact ⟨_, rfl⟩
end Go.Proofs.Ytcopdfihaheplaa.Lx
namespace Go.Proofs.Ytcopdfihaheplaa.Lx
open Go.RowKit Go.Sort
end Go.Proofs.Ytcopdfihaheplaa.Lx
namespace Go.Proofs.Ytcopdfihaheplaa.Lx
def Lexed (N c : Nat) (t : List UInt8) (R : List PTok × Nat × Int) : Prop := ∀ f, t.length < f → words N f c t = R
def Wd (A : List UInt8 → Prop) (x : List UInt8) (ks : List Tok) : Prop := ∀ N c z, A z →
 (∀ R, c + ks.length ≤ 4096 → Lexed N (c + ks.length) z R → ∃ ps : List PTok, ps.map (·.t) = ks ∧ Lexed N c (x ++ z) (app ps R)) ∧
 (c ≤ 4096 → 4096 < c + ks.length → ∃ p, Lexed N c (x ++ z) ([], p, 3))
theorem Wd.nil (A : List UInt8 → Prop) : Wd A [] [] := by
 intro N c z hz
 refine ⟨fun R hc hR => ⟨[], rfl, ?_⟩, fun hc hlt => absurd hlt (by simpa using hc)⟩
 intro f hf
 rw [← hR f hf]
 exact (words_norm _ _ _ _).symm
theorem Wd.mono {A B : List UInt8 → Prop} {x : List UInt8} {ks : List Tok} (h : Wd A x ks) (hAB : ∀ z, B z → A z) : Wd B x ks := fun N c z hz => h N c z (hAB z hz)
end Go.Proofs.Ytcopdfihaheplaa.Lx
namespace Go.Proofs.Ytcopdfihaheplaa
namespace Rd
open Dt Lx
mutual
def toks : D → List Tok
 | .mk k n s _ l t =>
  if shortL k l ≠ 0 then ⟨shortL k l, 0, []⟩ :: toks2 l
  else if 1 ≤ k ∧ k ≤ 5 then [if k ≤ 3 then ⟨k + 8, n, []⟩ else ⟨k + 8, 0, s.data.toList⟩]
  else ⟨if k = 8 then 3 else 1, 0, []⟩ :: (tokss l ++ (tokst t ++ [⟨2, 0, []⟩]))
def toks2 : List D → List Tok
 | [] => []
 | _ :: r => toks1 r
def toks1 : List D → List Tok
 | [] => []
 | d :: _ => toks d
def tokss : List D → List Tok
 | [] => []
 | d :: r => toks d ++ tokss r
def tokst : List D → List Tok
 | [] => []
 | d :: _ => ⟨8, 0, []⟩ :: toks d
end
theorem bytes_nil {s : ByteArray} (h : s.data.toList.isEmpty = true) : s = ⟨#[]⟩ := by
 apply ByteArray.ext
 apply Array.toList_inj.1
 rw [List.isEmpty_iff] at h
 rw [h]
theorem single_cases {k n : Int} {s : ByteArray} {m : List Int} {l t : List D} (h : single (.mk k n s m l t) = true) :
  ((1 ≤ k ∧ k ≤ 3) ∧ s = ⟨#[]⟩ ∧ l = [] ∧ t = []) ∨ ((k = 4 ∨ k = 5) ∧ n = 0 ∧ l = [] ∧ t = []) ∨ ((k = 6 ∨ k = 8) ∧ n = 0 ∧ s = ⟨#[]⟩ ∧ t = []) ∨ (k = 7 ∧ n = 0 ∧ s = ⟨#[]⟩ ∧ l ≠ [] ∧ ∃ x, t = [x] ∧ x.k ≠ 6 ∧ x.k ≠ 7) := by
 unfold single at h
 dsimp only at h
 split at h
 ·rename_i hk
  simp only [Bool.and_eq_true, List.isEmpty_iff (α := D)] at h
  obtain ⟨⟨⟨⟨h1, h2⟩, h3⟩, h4⟩, h5⟩ := h
  exact .inl ⟨by omega, bytes_nil h2, h4, h5⟩
 split at h
 ·rename_i hk
  simp only [Bool.and_eq_true, List.isEmpty_iff (α := D)] at h
  obtain ⟨⟨⟨⟨h1, h2⟩, h3⟩, h4⟩, h5⟩ := h
  exact .inl ⟨by omega, bytes_nil h2, h4, h5⟩
 split at h
 ·rename_i hk
  simp only [Bool.and_eq_true, List.isEmpty_iff (α := D)] at h
  obtain ⟨⟨⟨⟨h1, h2⟩, h3⟩, h4⟩, h5⟩ := h
  exact .inl ⟨by omega, bytes_nil h2, h4, h5⟩
 split at h
 ·rename_i hk
  simp only [Bool.and_eq_true, List.isEmpty_iff (α := D), decide_eq_true_eq] at h
  obtain ⟨⟨⟨⟨h1, h2⟩, h3⟩, h4⟩, h5⟩ := h
  exact .inr (.inl ⟨.inl hk, h2, h4, h5⟩)
 split at h
 ·rename_i hk
  simp only [Bool.and_eq_true, List.isEmpty_iff (α := D), decide_eq_true_eq] at h
  obtain ⟨⟨⟨⟨⟨h1, h2⟩, h6⟩, h3⟩, h4⟩, h5⟩ := h
  exact .inr (.inl ⟨.inr hk, h3, h4, h5⟩)
 split at h
 ·rename_i hk
  simp only [Bool.and_eq_true, List.isEmpty_iff (α := D), decide_eq_true_eq] at h
  obtain ⟨⟨⟨h1, h2⟩, h3⟩, h4⟩ := h
  exact .inr (.inr (.inl ⟨hk, h1, bytes_nil h2, h4⟩))
 split at h
 ·rename_i hk
  simp only [Bool.and_eq_true, decide_eq_true_eq] at h
  obtain ⟨⟨⟨⟨h1, h2⟩, h3⟩, h4⟩, h5⟩ := h
  refine .inr (.inr (.inr ⟨hk, h1, bytes_nil h2, by rintro rfl; simp at h4, ?_⟩))
  split at h5
  ·rename_i x
   exact ⟨x, rfl, of_decide_eq_true h5⟩
  ·cases h5
 ·cases h
def cl (l : List D) : Nat := (tokss l).length
def ct (l : List D) : Nat := (tokst l).length
def tl_ (d : D) : Nat := (toks d).length
structure Tn (d : D) : Prop where
 k : d.k ≤ 8
 plain : strip false d = d
 parts : d.k = 6 ∨ d.k = 7 → cl d.l + ct d.t ≤ tl_ d
 five : d.k = 5 → tl_ d = 1
 tail : d.k = 6 → d.t = []
def Nm (n : Nat) : Res → Prop
 | .ok d rest => Tn d ∧ tl_ d + rest.length ≤ n
 | _ => True
theorem Nm.mono {m n : Nat} {r : Res} (h : Nm m r) (hmn : m ≤ n) : Nm n r := by
 cases r with
 | ok d rest => exact ⟨h.1, Nat.le_trans h.2 hmn⟩
 | bad => trivial
 | out => trivial
end Rd
end Go.Proofs.Ytcopdfihaheplaa
