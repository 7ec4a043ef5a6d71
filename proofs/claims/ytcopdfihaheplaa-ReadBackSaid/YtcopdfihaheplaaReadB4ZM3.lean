/-
  Several texts of this proof in one: RdTail, RdList, RdQuote, RdLeaf.
-/
import Derived.Test.YtcopdfihaheplaaReadB4ZM2
import Derived.Deep.RegionHeld3
import Derived.WalkSpells
namespace Go.Proofs.Ytcopdfihaheplaa
open Go.RowKit
attribute [local go_sem] Oper.semAt_some
namespace Rd
open Dt Lx
theorem row_one {F : Nat → Prop} {w w1 : World} {y : D} {vm vl vt : Value} (h : w.alloc (.cells #[.int .i64 y.k, .int .i64 y.n, .string y.s, vm, vl, vt] 25) = w1) (hr : Rep F w y vm vl vt) (hF : F w.heap.size) : Row F w1 (.slice (some ⟨w.heap.size, 0, none⟩) 1 1) [y] := by
 have hp := Hp.new h
 refine ⟨_, _, rfl, Nat.le_refl _, fun _ => ⟨_, _, rfl, hF, hp.lt, ?_⟩⟩
 rw [Reps, Reps]
 exact ⟨⟨vm, vl, vt, ⟨hp.cell 0 rfl, hp.cell 1 rfl, hp.cell 2 rfl, hp.cell 3 rfl, hp.cell 4 rfl, hp.cell 5 rfl⟩, hr.below (new_below h).1⟩, trivial⟩
end Rd
set_option maxRecDepth 100000 in
set_option maxHeartbeats 16000000 in
theorem tail_any (P tb C : Nat) (xs : List Lx.PTok) (hG : Rd.G P tb C xs) (F : Nat) (hD : ∀ g, g < F → Rd.DatumIs P tb C xs g) (t : Lx.PTok) (r : List Lx.PTok) (w : World) (base : Nat) (ps : List Dt.P) (al : Option Addr) (k cl : Nat) (hSrc : Rd.Src w tb xs) (hSt : Rd.St w P tb C xs r 0 0)
  (hrow : Dt.Rowing w base (.slice al k cl) ps) (hk : ps.length = k) (hbase : base ≤ w.heap.size) (hPb : P < base) (hkn : k + r.length ≤ 4096) (hR : Rd.pt F t.at_ (ps.map Dt.P.d) r ≠ .out) :
  Calls Try.prog 68 #[.pointer (some ⟨P, 0, none⟩), Rd.tokV t, .agg #[.int .i64 6, .int .i64 0, .string ⟨#[]⟩, .slice none 0 0, .slice al k cl, .slice none 0 0]] w (Rd.OutB base P tb C xs w (Rd.pt F t.at_ (ps.map Dt.P.d) r)) := by
 unfold Rd.tokV
 obtain ⟨tk, htk⟩ : ∃ tk, t.t.k = tk := ⟨_, rfl⟩
 obtain ⟨tn, htn⟩ : ∃ tn, t.t.n = tn := ⟨_, rfl⟩
 obtain ⟨ts, hts⟩ : ∃ ts : ByteArray, ⟨t.t.s.toArray⟩ = ts := ⟨_, rfl⟩
 obtain ⟨ta, hta⟩ : ∃ ta : Nat, t.at_ = ta := ⟨_, rfl⟩
 obtain ⟨tz, hto⟩ : ∃ tz : Int, (t.to : Int) = tz := ⟨_, rfl⟩
 rw [hta] at hR ⊢
 rw [htk, htn, hts, hto]
 clear htk htn hts hta hto
 obtain ⟨RR, hRR⟩ : ∃ RR, Rd.pt F ta (ps.map Dt.P.d) r = RR := ⟨_, rfl⟩
 rw [hRR] at hR ⊢
 obtain ⟨q, rfl⟩ : ∃ q, F = q + 1 := by
  cases F with
  | zero => rw [Rd.pt] at hRR; exact absurd hRR.symm hR
  | succ q => exact ⟨q, rfl⟩
 obtain ⟨w1, hw1⟩ : ∃ w1, w.alloc (.cells #[.int .i64 tk, .int .i64 (ta : Int), .int .i64 tz, .int .i64 tn, .string ts] 47) = w1 := ⟨_, rfl⟩
 obtain ⟨w2, hw2⟩ : ∃ w2, w1.alloc (.cells #[.int .i64 6, .int .i64 0, .string ⟨#[]⟩, .slice none 0 0, .slice al k cl, .slice none 0 0] 25) = w2 := ⟨_, rfl⟩
 obtain ⟨w3, hw3⟩ : ∃ w3, w2.alloc (.cells #[.int .i64 0, .int .i64 0, .string ⟨#[]⟩, .slice none 0 0, .slice none 0 0, .slice none 0 0] 25) = w3 := ⟨_, rfl⟩
 obtain ⟨hb1, hs1⟩ := new_below hw1
 obtain ⟨hb2, hs2⟩ := new_below hw2
 obtain ⟨hb3, hs3⟩ := new_below hw3
 have hT3 := ((Hp.new hw1).below hb2).below hb3
 have hD3 := (Hp.new hw2).below hb3
 have hR3 := Hp.new hw3
 have hb13 := hb1.trans ((hb2.trans (hb3.mono hb2.size)).mono hb1.size)
 obtain ⟨T, hT⟩ : ∃ T, w.heap.size = T := ⟨_, rfl⟩
 obtain ⟨D, hDb⟩ : ∃ D, w1.heap.size = D := ⟨_, rfl⟩
 obtain ⟨R, hRb⟩ : ∃ R, w2.heap.size = R := ⟨_, rfl⟩
 rw [hT] at hT3 hs1
 rw [hDb] at hD3 hs1 hs2
 rw [hRb] at hR3 hs2 hs3
 have HN : Hid (P < base ∧ base ≤ T ∧ D = T + 1 ∧ R = T + 2 ∧ w3.heap.size = T + 3 ∧ w.heap.size = T) := ⟨hPb, hT ▸ hbase, hs1, by omega, by omega, hT⟩
 have hst3 := hSt.below hb13
 have hsrc3 := hSrc.below hb13
 have hrow3 := hrow.below hb13
 have hrl3 : Dt.Row (fun j => base ≤ j ∧ j < T) w3 (.slice al k cl) (ps.map Dt.P.d) := (Dt.Row.mono hrow.to_row (fun j h1 h2 => ⟨h1, by omega⟩)).below hb13
 have HRL3 := Lib.hid hrl3
 have HLT : Hid (∀ j, (Value.slice al k cl).ownBlock = some j → base ≤ j ∧ j < T) := fun j e => by have := Dt.own_lt hrow.row j e; exact ⟨this.1, by omega⟩
 have HRP3 : Hid (∀ p ∈ ps, Dt.Rep (fun j => base ≤ j ∧ j < T ∧ (Value.slice al k cl).ownBlock ≠ some j) w3 p.d p.vm p.vl p.vt) := fun p hp => Dt.Rep.below hb13 (Dt.Rep.mono (fun b hb hl => ⟨hb.1, by omega, hb.2⟩) p.d (hrow.rep p hp))
 have HT3 := Lib.hid hT3
 have HR3 := Lib.hid hR3
 have HD3 := Lib.hid hD3
 have HK3 : Hid (Keep (fun j => j = P ∨ base ≤ j) w w3) := keep_of_below hb13
 have HST3 := Lib.hid hst3
 have HSRC := Lib.hid hsrc3
 have HROW := Lib.hid hrow3
 have HG := Lib.hid hG
 have HD := Lib.hid hD
 have HKL := Lib.hid hk
 have HKN := Lib.hid hkn
 obtain ⟨i0, hi, hz0, hz1, hz2⟩ := info_parts Dt.infoD
 have HI1 := Lib.hid hi
 have HZ0 := Lib.hid hz0
 have HZ1 := Lib.hid hz1
 have HZ2 := Lib.hid hz2
 have HW3 := Lib.hid hw3
 obtain ⟨pa, pre, hP, hpre, hpa⟩ := hst3
 have p0 := hP.cell 0 rfl
 clear hb1 hb2 hb3 hs1 hs2 hs3 hb13 hSt hSrc hG hD hi hz0 hz1 hz2 hrow hk hbase hPb hkn hsrc3 hrow3 hrl3
 cases r with
 | nil =>
  rw [Rd.pt] at hRR
  have HRR := Lib.hid hRR
  have hf := fail_any P tb C xs [] (ta : Int) 41 w3 HST3.out
  have y1 := hT3.cell 1 rfl
  rw [List.length_nil] at p0
  clear hT3 hD3 hR3 hP hpre hpa hRR hR
  go_enter Try.func68, Try.ntmps68
  go_wp2_with fail
  refine hf.mono ?_
  rintro e w4 ⟨rfl, hst4, hk4⟩
  unfold Rd.zeroD
  have hR4 := HR3.out.keep hk4 (by have := HN.out; omega)
  have HE := Lib.hid (Rd.OutB.fin (b := base) (r := RR) (x := .mk 0 0 ⟨#[]⟩ [] [] []) (HK3.out.trans (hk4.le (fun j e => .inl e))) (R := R) (by have := HN.out; omega) (by have := HN.out; omega) (Rd.rep_zero _ _) (.inl rfl) hst4 (.inr ⟨ta, 41, HRR.out.symm, rfl, rfl, by decide⟩))
  have r0 := hR4.cell 0 rfl
  have r1 := hR4.cell 1 rfl
  have r2 := hR4.cell 2 rfl
  have r3 := hR4.cell 3 rfl
  have r4 := hR4.cell 4 rfl
  have r5 := hR4.cell 5 rfl
  have k0 := hR4.frz 0
  have k1 := hR4.frz 1
  have k2 := hR4.frz 2
  have k3 := hR4.frz 3
  have k4 := hR4.frz 4
  have k5 := hR4.frz 5
  clear hf hst4 hk4 hR4 p0 y1 hw1 hw2 hw3
  go_wp2
  refine bodyPost_ret (v := .agg #[.int .i64 0, .int .i64 0, .string ⟨#[]⟩, .slice none 0 0, .slice none 0 0, .slice none 0 0]) (by simp [results, Try.results68, go_sem, *]) rfl ?_
  exact HE.out
 | cons x us =>
  have hlen : xs.length = pre.length + (us.length + 1) := by rw [hpre]; simp
  rw [Rd.pt] at hRR
  have hdo : Rd.pd q (x :: us) ≠ .out := fun e => by rw [e] at hRR; exact hR hRR.symm
  have hrl := (Rd.res_len q).1 (x :: us) us.length (by simp)
  have hmany := (Rd.res_many q).1 (x :: us)
  have hcall := HD.out q (by omega) (x :: us) w3 (by simp) HSRC.out HST3.out hdo
  have hn0 : ((((x :: us).length : Nat) : Int) == 0) = false := by simp; omega
  rw [show (x :: us).length = us.length + 1 from rfl] at p0 hn0
  obtain ⟨n, hn⟩ : ∃ n, us.length = n := ⟨_, rfl⟩
  rw [hn] at p0 hn0
  have hn0' : (((n : Int) + 1) == 0) = false := by simp; omega
  have HUL : Hid (us.length = n ∧ n ≤ 4096) := ⟨hn, by have := HG.out.few; omega⟩
  clear hT3 hD3 hR3 hP hpre hpa hlen hn0 hn
  go_enter Try.func68, Try.ntmps68
  go_wp2_with fail
  refine hcall.mono ?_
  rintro e w4 ⟨y, vm, vl, vt, rest, a2, e2, rfl, hr4, hz4, hst4, hk4, hsays⟩
  obtain ⟨b1, m1, p1, b2, m2, p2, b3, m3, p3, rfl, rfl, rfl⟩ := hr4.forms
  clear hcall p0 hw1 hw2 hw3
  have hT4 := HT3.out.keep hk4 (by have := HN.out; omega)
  have hD4 := HD3.out.keep hk4 (by have := HN.out; omega)
  have hR4 := HR3.out.keep hk4 (by have := HN.out; omega)
  have hrow4 := HROW.out.keep hk4 (fun j hj _ e => by have := HN.out; omega)
  have hsrc4 := HSRC.out.keep hk4 (fun e => HG.out.ne e.symm)
  obtain ⟨w5, hw5⟩ : ∃ w5, w4.alloc (.cells #[.int .i64 y.k, .int .i64 y.n, .string y.s, .slice b1 m1 p1, .slice b2 m2 p2, .slice b3 m3 p3] 25) = w5 := ⟨_, rfl⟩
  obtain ⟨hb5, hs5⟩ := new_below hw5
  have hX5 := Hp.new hw5
  have hT5 := hT4.below hb5
  have hD5 := hD4.below hb5
  have hR5 := hR4.below hb5
  have hrow5 := hrow4.below hb5
  have hst5 := hst4.below hb5
  have hsrc5 := hsrc4.below hb5
  have hry5 : Dt.Rep (fun j => T + 3 ≤ j) w5 y (.slice b1 m1 p1) (.slice b2 m2 p2) (.slice b3 m3 p3) := Dt.Rep.mono (fun b hb _ => by have := HN.out; omega) y (hr4.below hb5)
  have HK5 : Hid (Keep (fun j => j = P ∨ base ≤ j) w w5) := (HK3.out.trans (hk4.le (fun j e => .inl e))).trans (keep_of_below hb5)
  obtain ⟨X, hX⟩ : ∃ X, w4.heap.size = X := ⟨_, rfl⟩
  rw [hX] at hX5 hs5
  have HP35 : Hid (Keep (fun j => j = P) w3 w5) := hk4.trans (keep_of_below hb5)
  have HNX : Hid (T + 3 ≤ X ∧ w5.heap.size = X + 1) := ⟨by have h1 := HN.out; have h2 := hk4.size; omega, hs5⟩
  have hrl5 := (HRL3.out.keep hk4 (fun j hj _ e => by have := HN.out; omega)).below hb5
  have HRL5 := Lib.hid hrl5
  have HX5 := Lib.hid hX5
  have HT5 := Lib.hid hT5
  have HD5 := Lib.hid hD5
  have HR5 := Lib.hid hR5
  have HROW5 := Lib.hid hrow5
  have HST5 := Lib.hid hst5
  have HSRC5 := Lib.hid hsrc5
  have HRY5 := Lib.hid hry5
  have HZ4 := Lib.hid hz4
  obtain ⟨pa5, pre5, hP5, hpre5, hpa5⟩ := hst5
  have p2' := hP5.cell 2 rfl
  have p0 := hP5.cell 0 rfl
  have y1 := hT5.cell 1 rfl
  clear hT4 hD4 hR4 hrow4 hsrc4 hst4 hb5 hs5 hk4 hr4 hz4
  rcases hsays with ⟨hpd, rfl, rfl⟩ | ⟨b, c, hpd, rfl, rfl, hc0⟩
  case inr =>
   rw [hpd] at hRR
   have he1 : (e2 != 0) = true := by simpa using hc0
   have HE := Lib.hid (Rd.OutB.fin (b := base) (r := RR) (x := Rd.listD (ps.map Dt.P.d)) HK5.out (R := R) (by have := HN.out; omega) (by have := HN.out; omega) (Rd.rep_row 6 (Dt.Row.mono HRL5.out (fun j hj _ => by have := HN.out; omega))) (Rd.own_nz hrow5.row) HST5.out (.inr ⟨b, e2, hRR.symm, rfl, rfl, hc0⟩))
   have d0 := hD5.cell 0 rfl
   have d1 := hD5.cell 1 rfl
   have d2 := hD5.cell 2 rfl
   have d3 := hD5.cell 3 rfl
   have d4 := hD5.cell 4 rfl
   have d5 := hD5.cell 5 rfl
   have r0 := hR5.cell 0 rfl
   have r1 := hR5.cell 1 rfl
   have r2 := hR5.cell 2 rfl
   have r3 := hR5.cell 3 rfl
   have r4 := hR5.cell 4 rfl
   have r5 := hR5.cell 5 rfl
   have k0 := hR5.frz 0
   have k1 := hR5.frz 1
   have k2 := hR5.frz 2
   have k3 := hR5.frz 3
   have k4 := hR5.frz 4
   have k5 := hR5.frz 5
   clear hT5 hD5 hR5 hrow5 hsrc5 hry5 hrl5 hX5 hP5 hpre5 hpa5 hRR hR hdo hrl hpd hc0 hmany
   go_wp2
   refine bodyPost_ret (v := .agg #[.int .i64 6, .int .i64 0, .string ⟨#[]⟩, .slice none 0 0, .slice al k cl, .slice none 0 0]) (by simp [results, Try.results68, go_sem, *]) rfl ?_
   exact HE.out
  case inl =>
   rw [hpd] at hRR hrl hmany
   have hml : y.l.length ≤ 4097 := by have h1 : y.l.length + rest.length ≤ us.length + 1 := hmany; have h2 := HUL.out; omega
   clear hmany
   have hrl2 : rest.length ≤ us.length := hrl
   have he1 : ((0 : Int) != 0) = false := rfl
   cases rest with
   | nil =>
    have hnx := next_no P tb C xs 0 0 w5 HST5.out
    have HRR := Lib.hid hRR
    clear hT5 hD5 hR5 hrow5 hsrc5 hry5 hrl5 hX5 hP5 hpre5 hpa5 hRR hR hdo hrl hrl2 hpd
    go_wp2_with fail
    refine hnx.mono ?_
    rintro e w6 ⟨rfl, hst6, hk6⟩
    unfold Rd.noTok
    clear hw5 p0 p2'
    go_upto_region 7 with fail
    obtain ⟨w7, hw7⟩ : ∃ w7, w6.alloc (.cells #[.int .i64 0, .int .i64 0, .int .i64 0, .int .i64 0, .string ⟨#[]⟩] 47) = w7 := ⟨_, rfl⟩
    rw [hw7]
    obtain ⟨hb7, hs7⟩ := new_below hw7
    have hf := fail_any P tb C xs [] (ta : Int) 41 w7 (hst6.below hb7)
    have hT7 := (HT5.out.keep hk6 (by have := HN.out; omega)).below hb7
    have hR7 := (HR5.out.keep hk6 (by have := HN.out; omega)).below hb7
    have y1 := hT7.cell 1 rfl
    have HR7 := Lib.hid hR7
    have HK7 : Hid (Keep (fun j => j = P ∨ base ≤ j) w w7) := (HK5.out.trans (hk6.le (fun j e => .inl e))).trans (keep_of_below hb7)
    clear hnx hst6 hk6 hb7 hs7 hT7 hR7 hw7
    go_wp2_with fail
    refine hf.mono ?_
    rintro e w8 ⟨rfl, hst8, hk8⟩
    unfold Rd.zeroD
    have hR8 := HR7.out.keep hk8 (by have := HN.out; omega)
    have HE := Lib.hid (Rd.OutB.fin (b := base) (r := RR) (x := .mk 0 0 ⟨#[]⟩ [] [] []) (HK7.out.trans (hk8.le (fun j e => .inl e))) (R := R) (by have := HN.out; omega) (by have := HN.out; omega) (Rd.rep_zero _ _) (.inl rfl) hst8 (.inr ⟨ta, 41, HRR.out.symm, rfl, rfl, by decide⟩))
    have r0 := hR8.cell 0 rfl
    have r1 := hR8.cell 1 rfl
    have r2 := hR8.cell 2 rfl
    have r3 := hR8.cell 3 rfl
    have r4 := hR8.cell 4 rfl
    have r5 := hR8.cell 5 rfl
    have k0 := hR8.frz 0
    have k1 := hR8.frz 1
    have k2 := hR8.frz 2
    have k3 := hR8.frz 3
    have k4 := hR8.frz 4
    have k5 := hR8.frz 5
    clear hf hst8 hk8 hR8 y1
    go_wp2
    refine bodyPost_ret (v := .agg #[.int .i64 0, .int .i64 0, .string ⟨#[]⟩, .slice none 0 0, .slice none 0 0, .slice none 0 0]) (by simp [results, Try.results68, go_sem, *]) rfl ?_
    exact HE.out
   | cons z rest =>
    have hnx := next_yes P tb C xs z rest 0 0 w5 HSRC5.out HST5.out HG.out.cap HG.out.few HG.out.C2
    have HRR := Lib.hid hRR
    have HRN : Hid (rest.length + 1 ≤ n) := by have := HUL.out.1; show _ ≤ _; simp only [List.length_cons] at hrl2; omega
    clear hT5 hD5 hR5 hrow5 hsrc5 hry5 hrl5 hX5 hP5 hpre5 hpa5 hRR hrl hrl2 hpd
    go_wp2_with fail
    refine hnx.mono ?_
    rintro e w6 ⟨rfl, hst6, hk6⟩
    unfold Rd.tokV
    obtain ⟨zk, hzk⟩ : ∃ zk, z.t.k = zk := ⟨_, rfl⟩
    obtain ⟨zn, hzn⟩ : ∃ zn, z.t.n = zn := ⟨_, rfl⟩
    obtain ⟨zs, hzs⟩ : ∃ zs : ByteArray, ⟨z.t.s.toArray⟩ = zs := ⟨_, rfl⟩
    obtain ⟨za, hza⟩ : ∃ za : Nat, z.at_ = za := ⟨_, rfl⟩
    obtain ⟨zz, hzz⟩ : ∃ zz : Int, (z.to : Int) = zz := ⟨_, rfl⟩
    rw [hzk, hzn, hzs, hza, hzz]
    have HZK := Lib.hid hzk
    have HZA := Lib.hid hza
    clear hzn hzs hza hzz hzk
    obtain ⟨w7, hw7⟩ : ∃ w7, w6.alloc (.cells #[.int .i64 zk, .int .i64 (za : Int), .int .i64 zz, .int .i64 zn, .string zs] 47) = w7 := ⟨_, rfl⟩
    obtain ⟨hb7, hs7⟩ := new_below hw7
    have hE7 := Hp.new hw7
    have hst7 := hst6.below hb7
    have hT7 := (HT5.out.keep hk6 (by have := HN.out; omega)).below hb7
    have hD7 := (HD5.out.keep hk6 (by have := HN.out; omega)).below hb7
    have hR7 := (HR5.out.keep hk6 (by have := HN.out; omega)).below hb7
    have hX7 := (HX5.out.keep hk6 (by have := HN.out; have := HNX.out; omega)).below hb7
    have hrow7 := (HROW5.out.keep hk6 (fun j hj _ e => by have := HN.out; omega)).below hb7
    have hry7 := (Dt.Rep.keep hk6 (fun j hj _ e => by have := HN.out; omega) y HRY5.out).below hb7
    have HR7 := Lib.hid hR7
    have HD7 := Lib.hid hD7
    have HX7 := Lib.hid hX7
    have HROW7 := Lib.hid hrow7
    have HRY7 := Lib.hid hry7
    have HST7 := Lib.hid hst7
    have HK7 : Hid (Keep (fun j => j = P ∨ base ≤ j) w w7) := (HK5.out.trans (hk6.le (fun j e => .inl e))).trans (keep_of_below hb7)
    have HP7 : Hid (Keep (fun j => j = P) w3 w7) := HP35.out.trans (hk6.trans (keep_of_below hb7))
    have HS7 : Hid (X + 1 ≤ w7.heap.size) := by have h1 := HNX.out.2; have h2 := hk6.size; show _ ≤ _; omega
    obtain ⟨E, hEe⟩ : ∃ E, w6.heap.size = E := ⟨_, rfl⟩
    rw [hEe] at hE7
    have z0 := hE7.cell 0 rfl
    have z1 := hE7.cell 1 rfl
    clear hnx hst6 hk6 hb7 hs7 hw5 p0 p2' hE7
    by_cases h2 : zk = 2
    case neg =>
     have h2' : (zk != 2) = true := by simpa using h2
     have hf := fail_any P tb C xs rest (za : Int) 40 w7 HST7.out
     have hRR2 : RR = .bad za 40 := by rw [← HRR.out]; simp only [HZK.out, HZA.out]; rw [if_neg h2]
     have HR2 := Lib.hid hRR2
     clear h2 hRR2 hst7 hT7 hD7 hR7 hX7 hrow7 hry7 hR hdo
     go_wp2_with fail
     refine hf.mono ?_
     rintro e w8 ⟨rfl, hst8, hk8⟩
     unfold Rd.zeroD
     have hR8 := HR7.out.keep hk8 (by have := HN.out; omega)
     have HE := Lib.hid (Rd.OutB.fin (b := base) (r := RR) (x := .mk 0 0 ⟨#[]⟩ [] [] []) (HK7.out.trans (hk8.le (fun j e => .inl e))) (R := R) (by have := HN.out; omega) (by have := HN.out; omega) (Rd.rep_zero _ _) (.inl rfl) hst8 (.inr ⟨za, 40, HR2.out, rfl, rfl, by decide⟩))
     have r0 := hR8.cell 0 rfl
     have r1 := hR8.cell 1 rfl
     have r2 := hR8.cell 2 rfl
     have r3 := hR8.cell 3 rfl
     have r4 := hR8.cell 4 rfl
     have r5 := hR8.cell 5 rfl
     have k0 := hR8.frz 0
     have k1 := hR8.frz 1
     have k2 := hR8.frz 2
     have k3 := hR8.frz 3
     have k4 := hR8.frz 4
     have k5 := hR8.frz 5
     clear hf hst8 hk8 hR8 hw7 z0 z1
     go_wp2
     refine bodyPost_ret (v := .agg #[.int .i64 0, .int .i64 0, .string ⟨#[]⟩, .slice none 0 0, .slice none 0 0, .slice none 0 0]) (by simp [results, Try.results68, go_sem, *]) rfl ?_
     exact HE.out
    case pos =>
     have h2' : (zk != 2) = false := by simpa using h2
     have hRR2 : RR = .ok (Rd.joinD (ps.map Dt.P.d) y) rest := by rw [← HRR.out]; simp only [HZK.out]; rw [if_pos h2]
     have HR2 := Lib.hid hRR2
     have x0 := hX7.cell 0 rfl
     have HXC : Hid (w7.cell? ⟨X, 0, none⟩ = some (.int .i64 y.k) ∧ w7.cell? ⟨X, 4, none⟩ = some (.slice b2 m2 p2) ∧ w7.cell? ⟨X, 5, none⟩ = some (.slice b3 m3 p3) ∧ w7.cell? ⟨D, 4, none⟩ = some (.slice al k cl)) := ⟨hX7.cell 0 rfl, hX7.cell 4 rfl, hX7.cell 5 rfl, hD7.cell 4 rfl⟩
     have HNE : Hid (¬ X = R ∧ ¬ D = R ∧ ¬ P = R ∧ R < w7.heap.size) := by have h1 := HN.out; have h3 := HNX.out; have h4 := HS7.out; exact ⟨by omega, by omega, by omega, by omega⟩
     have HRP7 : Hid (∀ p ∈ ps, Dt.Rep (fun j => base ≤ j ∧ j < T ∧ (Value.slice al k cl).ownBlock ≠ some j) w7 p.d p.vm p.vl p.vt) := fun p hp => Dt.Rep.keep HP7.out (fun j hj _ e => by have := HN.out; omega) p.d (HRP3.out p hp)
     have HRL7 : Hid (Dt.Row (fun j => base ≤ j ∧ j < T) w7 (.slice al k cl) (ps.map Dt.P.d)) := HRL3.out.keep HP7.out (fun j hj _ e => by have := HN.out; omega)
     have HNZ : Hid (Rd.Nz (.slice al k cl)) := Rd.own_nz hrow7.row
     by_cases hj : y.k = 6 ∨ y.k = 7
     case neg =>
      have j6 : (y.k == 6) = false := by simp; omega
      have j7 : (y.k == 7) = false := by simp; omega
      have HJ : Hid (Rd.joinD (ps.map Dt.P.d) y = .mk 7 0 ⟨#[]⟩ [] (ps.map Dt.P.d) [y]) := by show _ = _; unfold Rd.joinD; rw [if_neg hj]
      obtain ⟨w8, hw8⟩ : ∃ w8, w7.alloc (.cells #[.int .i64 y.k, .int .i64 y.n, .string y.s, .slice b1 m1 p1, .slice b2 m2 p2, .slice b3 m3 p3] 25) = w8 := ⟨_, rfl⟩
      obtain ⟨hb8, hs8⟩ := new_below hw8
      have hone := Rd.row_one (F := fun j => base ≤ j ∧ j ≠ R) hw8 (Dt.Rep.mono (fun j hj _ => by have := HN.out; omega) y hry7) (by have := HN.out; have := HNE.out; omega)
      have hrep8 : Dt.Rep (fun j => base ≤ j ∧ j ≠ R) w8 (.mk 7 0 ⟨#[]⟩ [] (ps.map Dt.P.d) [y]) (.slice none 0 0) (.slice al k cl) (.slice (some ⟨w7.heap.size, 0, none⟩) 1 1) :=
       (Dt.rep_iff _ _ _ _ _ _).2 ⟨⟨none, 0, rfl, Nat.le_refl _, fun h => absurd rfl h⟩, (Dt.Row.mono HRL7.out (fun j hj _ => by have := HN.out; omega)).below hb8, hone⟩
      have hR8 := hR7.below hb8
      have d4 := (hD7.cell 4 rfl)
      have x0' := hX7.cell 0 rfl
      have x1 := hX7.cell 1 rfl
      have x2 := hX7.cell 2 rfl
      have x3 := hX7.cell 3 rfl
      have x4 := hX7.cell 4 rfl
      have x5 := hX7.cell 5 rfl
      have HE := Lib.hid (Rd.OutB.fin (b := base) (r := RR) (x := .mk 7 0 ⟨#[]⟩ [] (ps.map Dt.P.d) [y]) (HK7.out.trans (keep_of_below hb8)) (R := R) (by have := HN.out; omega) (by have := HN.out; omega) hrep8 HNZ.out (HST7.out.below hb8) (.inl ⟨by rw [HR2.out, HJ.out], rfl, rfl⟩))
      have r0 := hR8.cell 0 rfl
      have r1 := hR8.cell 1 rfl
      have r2 := hR8.cell 2 rfl
      have r3 := hR8.cell 3 rfl
      have r4 := hR8.cell 4 rfl
      have r5 := hR8.cell 5 rfl
      have k0 := hR8.frz 0
      have k1 := hR8.frz 1
      have k2 := hR8.frz 2
      have k3 := hR8.frz 3
      have k4 := hR8.frz 4
      have k5 := hR8.frz 5
      clear hb8 hs8 hone hrep8 hR8 hRR2 hj h2 hst7 hT7 hD7 hR7 hX7 hrow7 hry7 hR hdo
      go_wp2
      refine bodyPost_ret (v := .agg #[.int .i64 7, .int .i64 0, .string ⟨#[]⟩, .slice none 0 0, .slice al k cl, .slice (some ⟨w7.heap.size, 0, none⟩) 1 1]) (by simp [results, Try.results68, go_sem, *]) rfl ?_
      exact HE.out
     case pos =>
      have HJ : Hid (Rd.joinD (ps.map Dt.P.d) y = .mk y.k 0 ⟨#[]⟩ [] (ps.map Dt.P.d ++ y.l) y.t) := by show _ = _; unfold Rd.joinD; rw [if_pos hj]
      obtain ⟨-, hrowl, hrowt⟩ := (Dt.rep_iff _ _ _ _ _ _).1 hry7
      have hm2l : m2 = y.l.length := by obtain ⟨a', c', e, -⟩ := hrowl; cases e; rfl
      obtain ⟨qs, hqd, hqs, hqr⟩ := Rd.row_parts hrowl HZ4.out
      have hql : qs.length = m2 := by rw [hm2l, ← hqd, List.length_map]
      have hN := HN.out
      have hNX := HNX.out
      have hNE := HNE.out
      have HOWN7 : Hid (w7.drew.ownsRow base 25 6 (.slice al k cl) k (Dt.flatP ps)) := by
       have h := hrow7.row
       rw [HKL.out] at h
       exact h
      have HSR : Hid (Ap.Src w7.drew (.slice b2 m2 p2) m2 (Dt.flatP qs)) := hqs
      have HLQ : Hid ((Dt.flatP qs).length = m2 * 6) := by
       show _ = _
       rw [← hql]
       exact Rd.flatP_len qs
      have HONE : Hid (∀ u ∈ Dt.flatP qs, u.oneCell' = true) := Rd.flatP_one qs (fun p hp => (hqr p hp).forms)
      have hm1 : k + m2 ≤ maxLen := by unfold maxLen; have := HKN.out; omega
      have hm3 : (k + m2) * 104 ≤ 140737488355328 := by have := HKN.out; omega
      have HBS : Hid (base ≤ w7.drew.heap.size) := by show base ≤ w7.heap.size; omega
      have HTS : Hid (w7.drew.cell? ⟨X, 0, none⟩ = some (.int .i64 y.k) ∧ w7.drew.cell? ⟨X, 4, none⟩ = some (.slice b2 m2 p2) ∧ w7.drew.cell? ⟨X, 5, none⟩ = some (.slice b3 m3 p3) ∧ w7.drew.cell? ⟨D, 4, none⟩ = some (.slice al k cl)) := HXC.out
      have HPOST : Hid (∀ (w8 : World) (a8 : Option Addr) (c8 : Nat), w8.ownsRow base 25 6 (.slice a8 (k + m2) c8) (k + m2) (Dt.flatP ps ++ Dt.flatP qs) → w7.drew.grownBy w8 (Value.slice al k cl).ownBlock → ((Value.slice a8 (k + m2) c8).ownBlock = (Value.slice al k cl).ownBlock ∨ (Value.slice a8 (k + m2) c8).ownBlock = some w7.drew.heap.size) →
        (w8.cell? ⟨X, 0, none⟩ = some (.int .i64 y.k) ∧ w8.cell? ⟨X, 4, none⟩ = some (.slice b2 m2 p2) ∧ w8.cell? ⟨X, 5, none⟩ = some (.slice b3 m3 p3) ∧ w8.cell? ⟨D, 4, none⟩ = some (.slice al k cl)) ∧ w8.there R 0 6 ∧ ((set6 w8 R (.int .i64 y.k) (.int .i64 0) (.string ⟨#[]⟩) (.slice none 0 0) (.slice a8 (k + m2) c8) (.slice b3 m3 p3)).cell? ⟨X, 0, none⟩ = some (.int .i64 y.k) ∧ (set6 w8 R (.int .i64 y.k) (.int .i64 0) (.string ⟨#[]⟩) (.slice none 0 0) (.slice a8 (k + m2) c8) (.slice b3 m3 p3)).cell? ⟨X, 4, none⟩ = some (.slice b2 m2 p2) ∧ (set6 w8 R (.int .i64 y.k) (.int .i64 0) (.string ⟨#[]⟩) (.slice none 0 0) (.slice a8 (k + m2) c8) (.slice b3 m3 p3)).cell? ⟨X, 5, none⟩ = some (.slice b3 m3 p3) ∧ (set6 w8 R (.int .i64 y.k) (.int .i64 0) (.string ⟨#[]⟩) (.slice none 0 0) (.slice a8 (k + m2) c8) (.slice b3 m3 p3)).cell? ⟨D, 4, none⟩ = some (.slice al k cl)) ∧ Hp (set6 w8 R (.int .i64 y.k) (.int .i64 0) (.string ⟨#[]⟩) (.slice none 0 0) (.slice a8 (k + m2) c8) (.slice b3 m3 p3)) R #[.int .i64 y.k, .int .i64 0, .string ⟨#[]⟩, .slice none 0 0, .slice a8 (k + m2) c8, .slice b3 m3 p3] 25 ∧ Rd.OutB base P tb C xs w RR (.returned (.agg #[.int .i64 y.k, .int .i64 0, .string ⟨#[]⟩, .slice none 0 0, .slice a8 (k + m2) c8, .slice b3 m3 p3])) (set6 w8 R (.int .i64 y.k) (.int .i64 0) (.string ⟨#[]⟩) (.slice none 0 0) (.slice a8 (k + m2) c8) (.slice b3 m3 p3))) := by
       intro w8 a8 c8 hown hgr hat
       have hk8 : Keep (fun j => (Value.slice al k cl).ownBlock = some j) w7 w8 := ((Keep.refl _ w7).drew 1).trans (Dt.Cd_keep_grown hgr)
       have hlt := HLT.out
       have hX8 := hX7.keep hk8 (fun e => by have := hlt X e; omega)
       have hD8 := hD7.keep hk8 (fun e => by have := hlt D e; omega)
       have hR8 := hR7.keep hk8 (fun e => by have := hlt R e; omega)
       have hst8 := HST7.out.keep hk8 (fun e => by have := hlt P e; omega)
       have hks := set6_keep w8 R (.int .i64 y.k) (.int .i64 0) (.string ⟨#[]⟩) (.slice none 0 0) (.slice a8 (k + m2) c8) (.slice b3 m3 p3)
       have hrow8 : Dt.Row (fun j => base ≤ j ∧ j ≠ R) w8 (.slice a8 (k + m2) c8) ((ps ++ qs).map Dt.P.d) := by
        refine Rd.row_of_own (base := base) (ls := ps ++ qs) (n := k + m2) ?_ (by rw [List.length_append, HKL.out, hql]) (fun j e => ?_) (fun p hp => ?_)
        ·have e : Dt.flatP (ps ++ qs) = Dt.flatP ps ++ Dt.flatP qs := by unfold Dt.flatP; rw [List.flatMap_append]
         rw [e]
         exact hown
        ·rcases hat with e' | e'
         ·have := hlt j (e'.symm.trans e); omega
         ·have h9 : w7.heap.size = j := Option.some.inj (e'.symm.trans e)
          omega
        ·rcases List.mem_append.1 hp with hp | hp
         ·exact Dt.Rep.mono (fun j hj _ => by omega) p.d (Dt.Rep.keep hk8 (fun j hj _ e => hj.2.2 e) p.d (HRP7.out p hp))
         ·exact Dt.Rep.mono (fun j hj _ => by omega) p.d (Dt.Rep.keep hk8 (fun j hj _ e => by have := hlt j e; omega) p.d (hqr p hp))
       rw [List.map_append, hqd] at hrow8
       have hrt8 : Dt.Row (fun j => base ≤ j ∧ j ≠ R) w8 (.slice b3 m3 p3) y.t := Dt.Row.mono (hrowt.keep hk8 (fun j hj _ e => by have := hlt j e; omega)) (fun j hj _ => by omega)
       have hrep : Dt.Rep (fun j => base ≤ j ∧ j ≠ R) w8 (.mk y.k 0 ⟨#[]⟩ [] (ps.map Dt.P.d ++ y.l) y.t) (.slice none 0 0) (.slice a8 (k + m2) c8) (.slice b3 m3 p3) :=
        (Dt.rep_iff _ _ _ _ _ _).2 ⟨⟨none, 0, rfl, Nat.le_refl _, fun h => absurd rfl h⟩, hrow8, hrt8⟩
       refine ⟨⟨hX8.cell 0 rfl, hX8.cell 4 rfl, hX8.cell 5 rfl, hD8.cell 4 rfl⟩, hR8.there (Nat.le_refl _), ⟨(hX8.keep hks hNE.1).cell 0 rfl, (hX8.keep hks hNE.1).cell 4 rfl, (hX8.keep hks hNE.1).cell 5 rfl, (hD8.keep hks hNE.2.1).cell 4 rfl⟩, hR8.set6 _ _ _ _ _ _, ?_⟩
       exact Rd.OutB.fin (b := base) (r := RR) (x := .mk y.k 0 ⟨#[]⟩ [] (ps.map Dt.P.d ++ y.l) y.t) (HK7.out.trans (hk8.le (fun j e => .inr (hlt j e).1))) (R := R) (by omega) (by omega) hrep (Rd.own_nz hown) hst8 (.inl ⟨by rw [HR2.out, HJ.out], rfl, rfl⟩)
      have HINF : Hid ((Try.prog.info? 25).map (·.size) = some 6) := by show _ = _; kernel_rfl
      have x0' := hX7.cell 0 rfl
      clear hrowl hrowt hm2l hqd hqs hqr hql hN hNX hNE hRR2 h2 hst7 hT7 hD7 hR7 hX7 hrow7 hry7 hR hdo
      rcases hj with hj | hj
      ·have j6 : (y.k == 6) = true := by simp [hj]
       clear hj
       go_upto_region 12 with fail
       refine wp_region_noPanic ?_
       refine wp_region_held_drew (S := fun W => W.cell? ⟨X, 0, none⟩ = some (.int .i64 y.k) ∧ W.cell? ⟨X, 4, none⟩ = some (.slice b2 m2 p2) ∧ W.cell? ⟨X, 5, none⟩ = some (.slice b3 m3 p3) ∧ W.cell? ⟨D, 4, none⟩ = some (.slice al k cl)) (by kernel_rfl) HTS.out (fun hHeld => ?_)
       refine wpAnyH_take (i := 0) (oi := ⟨_, _, _, _, _, _⟩) (v := ?_) rfl (by kernel_rfl) (by kernel_rfl) (by kernel_rfl) (fun _ _ _ h => h) (Or.inl ⟨by rfl, ?_⟩) (by assumption) ?_
       rotate_left
       ·intro w hSw
        clear hSw
        go_simp
        try with_reducible rfl
       simp only [Act.put, List.setIfInBounds_toArray, List.set_cons_zero, List.set_cons_succ]
       refine wpAnyH_take (i := 2) (oi := ⟨_, _, _, _, _, _⟩) (v := ?_) rfl (by kernel_rfl) (by kernel_rfl) (by kernel_rfl) (fun _ _ _ h => h) (Or.inl ⟨by rfl, ?_⟩) (by assumption) ?_
       rotate_left
       ·intro w hSw
        clear hSw
        go_simp
        try with_reducible rfl
       simp only [Act.put, List.setIfInBounds_toArray, List.set_cons_zero, List.set_cons_succ]
       refine wpAnyH_take (i := 4) (oi := ⟨_, _, _, _, _, _⟩) (v := ?_) rfl (by kernel_rfl) (by kernel_rfl) (by kernel_rfl) (fun _ _ _ h => h) (Or.inl ⟨by rfl, ?_⟩) (by assumption) ?_
       rotate_left
       ·intro w hSw
        clear hSw
        go_simp
        try with_reducible rfl
       simp only [Act.put, List.setIfInBounds_toArray, List.set_cons_zero, List.set_cons_succ]
       refine wpAnyH_take (i := 7) (oi := ⟨_, _, _, _, _, _⟩) (v := ?_) rfl (by kernel_rfl) (by kernel_rfl) (by kernel_rfl) (fun _ _ _ h => h) (Or.inl ⟨by rfl, ?_⟩) (by assumption) ?_
       rotate_left
       ·intro w hSw
        clear hSw
        go_simp
        try with_reducible rfl
       simp only [Act.put, List.setIfInBounds_toArray, List.set_cons_zero, List.set_cons_succ]
       refine wpAnyH_take (i := 1) (oi := ⟨_, _, _, _, _, _⟩) (v := ?_) rfl (by kernel_rfl) (by kernel_rfl) (by kernel_rfl) (fun _ _ _ h => h) (Or.inl ⟨by rfl, ?_⟩) (by assumption) ?_
       rotate_left
       ·intro w hSw
        obtain ⟨s0, s1, s2, s3⟩ := hSw
        go_simp
        try with_reducible rfl
       simp only [Act.put, List.setIfInBounds_toArray, List.set_cons_zero, List.set_cons_succ]
       refine wpAnyH_take (i := 3) (oi := ⟨_, _, _, _, _, _⟩) (v := ?_) rfl (by kernel_rfl) (by kernel_rfl) (by kernel_rfl) (fun _ _ _ h => h) (Or.inl ⟨by rfl, ?_⟩) (by assumption) ?_
       rotate_left
       ·intro w hSw
        obtain ⟨s0, s1, s2, s3⟩ := hSw
        go_simp
        try with_reducible rfl
       simp only [Act.put, List.setIfInBounds_toArray, List.set_cons_zero, List.set_cons_succ]
       refine wpAnyH_take (i := 5) (oi := ⟨_, _, _, _, _, _⟩) (v := ?_) rfl (by kernel_rfl) (by kernel_rfl) (by kernel_rfl) (fun _ _ _ h => h) (Or.inl ⟨by rfl, ?_⟩) (by assumption) ?_
       rotate_left
       ·intro w hSw
        obtain ⟨s0, s1, s2, s3⟩ := hSw
        go_simp
        try with_reducible rfl
       simp only [Act.put, List.setIfInBounds_toArray, List.set_cons_zero, List.set_cons_succ]
       refine wpAnyH_take (i := 8) (oi := ⟨_, _, _, _, _, _⟩) (v := ?_) rfl (by kernel_rfl) (by kernel_rfl) (by kernel_rfl) (fun _ _ _ h => h) (Or.inl ⟨by rfl, ?_⟩) (by assumption) ?_
       rotate_left
       ·intro w hSw
        obtain ⟨s0, s1, s2, s3⟩ := hSw
        go_simp
        try with_reducible rfl
       simp only [Act.put, List.setIfInBounds_toArray, List.set_cons_zero, List.set_cons_succ]
       refine wpAnyH_ready (rs := [6]) (by kernel_rfl) (by simp) ?_
       refine AllReadyH.cons (o := ⟨_, _, _, _, _, _⟩) rfl (fun K hK => ?_) AllReadyH.nil
       refine Ap.wp (.tmp 60) (.tmp 62) 23 rfl base 25 i0 (.agg #[.int .i64 0, .int .i64 0, .string ⟨#[]⟩, .slice none 0 0, .slice none 0 0, .slice none 0 0]) 6 104 Try.underlying23 HI1.out HZ0.out HZ1.out HZ2.out rfl (by decide) (.slice al k cl) k (Dt.flatP ps) rfl HOWN7.out (.slice b2 m2 p2) m2 (Dt.flatP qs) rfl HSR.out HLQ.out HONE.out hm1 hm3 HBS.out ?_
       intro v8 w8 hown hgrow hat
       obtain ⟨a8, c8, rfl⟩ := Dt.row_form hown
       obtain ⟨g1, g2, g3, g4, g5⟩ := HPOST.out w8 a8 c8 hown hgrow hat
       obtain ⟨w9, hw9⟩ : ∃ w9, set6 w8 R (.int .i64 y.k) (.int .i64 0) (.string ⟨#[]⟩) (.slice none 0 0) (.slice a8 (k + m2) c8) (.slice b3 m3 p3) = w9 := ⟨_, rfl⟩
       rw [hw9] at g3 g4 g5
       have HTH := Lib.hid g2
       have HE := Lib.hid g5
       have HG3 := Lib.hid g3
       have HW9 := Lib.hid hw9
       have e0 := g4.cell 0 rfl
       have e1 := g4.cell 1 rfl
       have e2 := g4.cell 2 rfl
       have e3 := g4.cell 3 rfl
       have e4 := g4.cell 4 rfl
       have e5 := g4.cell 5 rfl
       clear hown hgrow hat g2 g3 g4 g5 hw9
       refine hK.out _ _ ?_ (fun hHeld => ?_)
       ·exact g1
       clear hK K
       try simp only [Act.put, List.setIfInBounds_toArray, List.set_cons_zero, List.set_cons_succ]
       refine wpAnyH_take (i := 9) (oi := ⟨_, _, _, _, _, _⟩) (v := ?_) rfl (by kernel_rfl) (by kernel_rfl) (by kernel_rfl) (fun _ _ _ h => h) (Or.inl ⟨by rfl, ?_⟩) (by assumption) ?_
       rotate_left
       ·intro w hSw
        clear hSw
        go_simp
        try with_reducible rfl
       simp only [Act.put, List.setIfInBounds_toArray, List.set_cons_zero, List.set_cons_succ]
       refine wpAnyH_ready (rs := [10]) (by kernel_rfl) (by simp) ?_
       refine AllReadyH.cons (o := ⟨_, _, _, _, _, _⟩) rfl (fun K hK => ?_) AllReadyH.nil
       refine wp_store_mid _ _ _ rfl R 0 #[.int .i64 y.k, .int .i64 0, .string ⟨#[]⟩, .slice none 0 0, .slice a8 (k + m2) c8, .slice b3 m3 p3] rfl rfl HTH.out HINF.out (by simp [Value.oneCell']) ?_
       rw [setCells6, HW9.out]
       refine hK.out _ _ ?_ (fun hHeld => ?_)
       ·exact HG3.out
       clear hK K
       try simp only [Act.put]
       refine wpAnyH_done (by kernel_rfl) ?_ _
       refine NoPanic.normal ?_
       go_wp2
       refine bodyPost_ret (v := .agg #[.int .i64 y.k, .int .i64 0, .string ⟨#[]⟩, .slice none 0 0, .slice a8 (k + m2) c8, .slice b3 m3 p3]) (by simp [results, Try.results68, go_sem, *]) rfl ?_
       exact HE.out
      ·have j6 : (y.k == 6) = false := by simp [hj]
       have j7 : (y.k == 7) = true := by simp [hj]
       clear hj
       go_upto_region 12 with fail
       refine wp_region_noPanic ?_
       refine wp_region_held_drew (S := fun W => W.cell? ⟨X, 0, none⟩ = some (.int .i64 y.k) ∧ W.cell? ⟨X, 4, none⟩ = some (.slice b2 m2 p2) ∧ W.cell? ⟨X, 5, none⟩ = some (.slice b3 m3 p3) ∧ W.cell? ⟨D, 4, none⟩ = some (.slice al k cl)) (by kernel_rfl) HTS.out (fun hHeld => ?_)
       refine wpAnyH_take (i := 0) (oi := ⟨_, _, _, _, _, _⟩) (v := ?_) rfl (by kernel_rfl) (by kernel_rfl) (by kernel_rfl) (fun _ _ _ h => h) (Or.inl ⟨by rfl, ?_⟩) (by assumption) ?_
       rotate_left
       ·intro w hSw
        clear hSw
        go_simp
        try with_reducible rfl
       simp only [Act.put, List.setIfInBounds_toArray, List.set_cons_zero, List.set_cons_succ]
       refine wpAnyH_take (i := 2) (oi := ⟨_, _, _, _, _, _⟩) (v := ?_) rfl (by kernel_rfl) (by kernel_rfl) (by kernel_rfl) (fun _ _ _ h => h) (Or.inl ⟨by rfl, ?_⟩) (by assumption) ?_
       rotate_left
       ·intro w hSw
        clear hSw
        go_simp
        try with_reducible rfl
       simp only [Act.put, List.setIfInBounds_toArray, List.set_cons_zero, List.set_cons_succ]
       refine wpAnyH_take (i := 4) (oi := ⟨_, _, _, _, _, _⟩) (v := ?_) rfl (by kernel_rfl) (by kernel_rfl) (by kernel_rfl) (fun _ _ _ h => h) (Or.inl ⟨by rfl, ?_⟩) (by assumption) ?_
       rotate_left
       ·intro w hSw
        clear hSw
        go_simp
        try with_reducible rfl
       simp only [Act.put, List.setIfInBounds_toArray, List.set_cons_zero, List.set_cons_succ]
       refine wpAnyH_take (i := 7) (oi := ⟨_, _, _, _, _, _⟩) (v := ?_) rfl (by kernel_rfl) (by kernel_rfl) (by kernel_rfl) (fun _ _ _ h => h) (Or.inl ⟨by rfl, ?_⟩) (by assumption) ?_
       rotate_left
       ·intro w hSw
        clear hSw
        go_simp
        try with_reducible rfl
       simp only [Act.put, List.setIfInBounds_toArray, List.set_cons_zero, List.set_cons_succ]
       refine wpAnyH_take (i := 1) (oi := ⟨_, _, _, _, _, _⟩) (v := ?_) rfl (by kernel_rfl) (by kernel_rfl) (by kernel_rfl) (fun _ _ _ h => h) (Or.inl ⟨by rfl, ?_⟩) (by assumption) ?_
       rotate_left
       ·intro w hSw
        obtain ⟨s0, s1, s2, s3⟩ := hSw
        go_simp
        try with_reducible rfl
       simp only [Act.put, List.setIfInBounds_toArray, List.set_cons_zero, List.set_cons_succ]
       refine wpAnyH_take (i := 3) (oi := ⟨_, _, _, _, _, _⟩) (v := ?_) rfl (by kernel_rfl) (by kernel_rfl) (by kernel_rfl) (fun _ _ _ h => h) (Or.inl ⟨by rfl, ?_⟩) (by assumption) ?_
       rotate_left
       ·intro w hSw
        obtain ⟨s0, s1, s2, s3⟩ := hSw
        go_simp
        try with_reducible rfl
       simp only [Act.put, List.setIfInBounds_toArray, List.set_cons_zero, List.set_cons_succ]
       refine wpAnyH_take (i := 5) (oi := ⟨_, _, _, _, _, _⟩) (v := ?_) rfl (by kernel_rfl) (by kernel_rfl) (by kernel_rfl) (fun _ _ _ h => h) (Or.inl ⟨by rfl, ?_⟩) (by assumption) ?_
       rotate_left
       ·intro w hSw
        obtain ⟨s0, s1, s2, s3⟩ := hSw
        go_simp
        try with_reducible rfl
       simp only [Act.put, List.setIfInBounds_toArray, List.set_cons_zero, List.set_cons_succ]
       refine wpAnyH_take (i := 8) (oi := ⟨_, _, _, _, _, _⟩) (v := ?_) rfl (by kernel_rfl) (by kernel_rfl) (by kernel_rfl) (fun _ _ _ h => h) (Or.inl ⟨by rfl, ?_⟩) (by assumption) ?_
       rotate_left
       ·intro w hSw
        obtain ⟨s0, s1, s2, s3⟩ := hSw
        go_simp
        try with_reducible rfl
       simp only [Act.put, List.setIfInBounds_toArray, List.set_cons_zero, List.set_cons_succ]
       refine wpAnyH_ready (rs := [6]) (by kernel_rfl) (by simp) ?_
       refine AllReadyH.cons (o := ⟨_, _, _, _, _, _⟩) rfl (fun K hK => ?_) AllReadyH.nil
       refine Ap.wp (.tmp 60) (.tmp 62) 23 rfl base 25 i0 (.agg #[.int .i64 0, .int .i64 0, .string ⟨#[]⟩, .slice none 0 0, .slice none 0 0, .slice none 0 0]) 6 104 Try.underlying23 HI1.out HZ0.out HZ1.out HZ2.out rfl (by decide) (.slice al k cl) k (Dt.flatP ps) rfl HOWN7.out (.slice b2 m2 p2) m2 (Dt.flatP qs) rfl HSR.out HLQ.out HONE.out hm1 hm3 HBS.out ?_
       intro v8 w8 hown hgrow hat
       obtain ⟨a8, c8, rfl⟩ := Dt.row_form hown
       obtain ⟨g1, g2, g3, g4, g5⟩ := HPOST.out w8 a8 c8 hown hgrow hat
       obtain ⟨w9, hw9⟩ : ∃ w9, set6 w8 R (.int .i64 y.k) (.int .i64 0) (.string ⟨#[]⟩) (.slice none 0 0) (.slice a8 (k + m2) c8) (.slice b3 m3 p3) = w9 := ⟨_, rfl⟩
       rw [hw9] at g3 g4 g5
       have HTH := Lib.hid g2
       have HE := Lib.hid g5
       have HG3 := Lib.hid g3
       have HW9 := Lib.hid hw9
       have e0 := g4.cell 0 rfl
       have e1 := g4.cell 1 rfl
       have e2 := g4.cell 2 rfl
       have e3 := g4.cell 3 rfl
       have e4 := g4.cell 4 rfl
       have e5 := g4.cell 5 rfl
       clear hown hgrow hat g2 g3 g4 g5 hw9
       refine hK.out _ _ ?_ (fun hHeld => ?_)
       ·exact g1
       clear hK K
       try simp only [Act.put, List.setIfInBounds_toArray, List.set_cons_zero, List.set_cons_succ]
       refine wpAnyH_take (i := 9) (oi := ⟨_, _, _, _, _, _⟩) (v := ?_) rfl (by kernel_rfl) (by kernel_rfl) (by kernel_rfl) (fun _ _ _ h => h) (Or.inl ⟨by rfl, ?_⟩) (by assumption) ?_
       rotate_left
       ·intro w hSw
        clear hSw
        go_simp
        try with_reducible rfl
       simp only [Act.put, List.setIfInBounds_toArray, List.set_cons_zero, List.set_cons_succ]
       refine wpAnyH_ready (rs := [10]) (by kernel_rfl) (by simp) ?_
       refine AllReadyH.cons (o := ⟨_, _, _, _, _, _⟩) rfl (fun K hK => ?_) AllReadyH.nil
       refine wp_store_mid _ _ _ rfl R 0 #[.int .i64 y.k, .int .i64 0, .string ⟨#[]⟩, .slice none 0 0, .slice a8 (k + m2) c8, .slice b3 m3 p3] rfl rfl HTH.out HINF.out (by simp [Value.oneCell']) ?_
       rw [setCells6, HW9.out]
       refine hK.out _ _ ?_ (fun hHeld => ?_)
       ·exact HG3.out
       clear hK K
       try simp only [Act.put]
       refine wpAnyH_done (by kernel_rfl) ?_ _
       refine NoPanic.normal ?_
       go_wp2
       refine bodyPost_ret (v := .agg #[.int .i64 y.k, .int .i64 0, .string ⟨#[]⟩, .slice none 0 0, .slice a8 (k + m2) c8, .slice b3 m3 p3]) (by simp [results, Try.results68, go_sem, *]) rfl ?_
       exact HE.out
end Go.Proofs.Ytcopdfihaheplaa
namespace Go.Proofs.Ytcopdfihaheplaa
open Go.RowKit
attribute [local go_sem] Oper.semAt_some
namespace Rd
open Dt Lx
def LInv (a : Nat) (R : Res) (f : Nat) (acc : List D) (ts : List PTok) (at_ er : Int) : Prop := (er = 0 ∧ at_ = 0 ∧ pl f a acc ts = R ∧ R ≠ .out ∧ (∃ q, f = q + 1) ∧ acc.length + ts.length ≤ 4096) ∨ (er ≠ 0 ∧ ∃ (b : Nat), at_ = (b : Int) ∧ R = .bad b er)
end Rd
set_option maxRecDepth 100000 in
set_option maxHeartbeats 16000000 in
theorem list_any (P tb C : Nat) (xs : List Lx.PTok) (hG : Rd.G P tb C xs) (F : Nat) (hD : ∀ g, g < F → Rd.DatumIs P tb C xs g) (t : Lx.PTok) (r : List Lx.PTok) (w : World) (hSrc : Rd.Src w tb xs) (hSt : Rd.St w P tb C xs r 0 0) (hR : Rd.pl F t.at_ [] r ≠ .out) :
  Calls Try.prog 42 #[.pointer (some ⟨P, 0, none⟩), Rd.tokV t] w (Rd.Out P tb C xs w (Rd.pl F t.at_ [] r)) := by
 unfold Rd.tokV
 obtain ⟨tk, htk⟩ : ∃ tk, t.t.k = tk := ⟨_, rfl⟩
 obtain ⟨tn, htn⟩ : ∃ tn, t.t.n = tn := ⟨_, rfl⟩
 obtain ⟨ts, hts⟩ : ∃ ts : ByteArray, ⟨t.t.s.toArray⟩ = ts := ⟨_, rfl⟩
 obtain ⟨ta, hta⟩ : ∃ ta : Nat, t.at_ = ta := ⟨_, rfl⟩
 obtain ⟨tz, hto⟩ : ∃ tz : Int, (t.to : Int) = tz := ⟨_, rfl⟩
 have HTV : Hid (Rd.tokV t = .agg #[.int .i64 tk, .int .i64 (ta : Int), .int .i64 tz, .int .i64 tn, .string ts] ∧ t.at_ = ta) := ⟨by unfold Rd.tokV; rw [htk, htn, hts, hto, hta], hta⟩
 rw [hta] at hR ⊢
 rw [htk, htn, hts, hto]
 clear htk htn hts hta hto
 obtain ⟨RR, hRR⟩ : ∃ RR, Rd.pl F ta [] r = RR := ⟨_, rfl⟩
 have hV0 : Rd.LInv ta RR F [] r 0 0 := .inl ⟨rfl, rfl, hRR, hRR ▸ hR, by
  cases F with
  | zero => exact absurd (by rw [Rd.pl]) hR
  | succ q => exact ⟨q, rfl⟩, by
   obtain ⟨_, pre, -, hpre, -⟩ := hSt
   have := hG.few
   rw [hpre] at this
   simp at this ⊢
   omega⟩
 rw [hRR]
 obtain ⟨w1, hw1⟩ : ∃ w1, w.alloc (.cells #[.int .i64 tk, .int .i64 (ta : Int), .int .i64 tz, .int .i64 tn, .string ts] 47) = w1 := ⟨_, rfl⟩
 obtain ⟨w2, hw2⟩ : ∃ w2, w1.alloc (.cells #[.int .i64 0, .int .i64 0, .string ⟨#[]⟩, .slice none 0 0, .slice none 0 0, .slice none 0 0] 25) = w2 := ⟨_, rfl⟩
 obtain ⟨w3, hw3⟩ : ∃ w3, w2.alloc (.cells #[.int .i64 6, .int .i64 0, .string ⟨#[]⟩, .slice none 0 0, .slice none 0 0, .slice none 0 0] 25) = w3 := ⟨_, rfl⟩
 obtain ⟨hb1, hs1⟩ := new_below hw1
 obtain ⟨hb2, hs2⟩ := new_below hw2
 obtain ⟨hb3, hs3⟩ := new_below hw3
 have hT3 := ((Hp.new hw1).below hb2).below hb3
 have hR3 := (Hp.new hw2).below hb3
 have hD3 := Hp.new hw3
 have hb13 := hb1.trans ((hb2.trans (hb3.mono hb2.size)).mono hb1.size)
 obtain ⟨T, hT⟩ : ∃ T, w.heap.size = T := ⟨_, rfl⟩
 obtain ⟨R, hRb⟩ : ∃ R, w1.heap.size = R := ⟨_, rfl⟩
 obtain ⟨D, hDb⟩ : ∃ D, w2.heap.size = D := ⟨_, rfl⟩
 rw [hT] at hT3 hs1
 rw [hRb] at hR3 hs1 hs2
 rw [hDb] at hD3 hs2 hs3
 have hPl := hSt.lt
 rw [hT] at hPl
 have HN : Hid (P < T ∧ R = T + 1 ∧ D = T + 2 ∧ w3.heap.size = T + 3 ∧ w.heap.size = T) := ⟨hPl, hs1, by omega, by omega, hT⟩
 have HT3 := Lib.hid hT3
 have HR3 := Lib.hid hR3
 have HD3 := Lib.hid hD3
 have HK3 : Hid (Keep (fun k => k = P) w w3) := keep_of_below hb13
 have HST3 := Lib.hid (hSt.below hb13)
 have HSRC := Lib.hid hSrc
 have HG := Lib.hid hG
 have HD := Lib.hid hD
 have HV0 := Lib.hid hV0
 have HROW0 : Hid (Dt.Rowing w3 (D + 1) (.slice none 0 0) [] ∧ ([] : List Dt.P).length = 0) := ⟨Dt.Rowing.nil _ _, rfl⟩
 obtain ⟨i0, hi, hz0, hz1, hz2⟩ := info_parts Dt.infoD
 have HW3 := Lib.hid hw3
 have HI1 := Lib.hid hi
 have HZ0 := Lib.hid hz0
 have HZ1 := Lib.hid hz1
 have HZ2 := Lib.hid hz2
 clear hb1 hb2 hb3 hs1 hs2 hs3 hT3 hR3 hD3 hb13 hSt hSrc hG hD hV0 hRR hR hPl hi hz0 hz1 hz2 hw3
 go_enter Try.func42, Try.ntmps42
 go_wp2
 rw [HW3.out]
 clear hw1 hw2
 go_loopw [8] (fun _ wr => ∃ (k : Nat) (ps : List Dt.P) (al : Option Addr) (cl f : Nat) (us : List Lx.PTok) (at_ er : Int), Hid (Hp wr D #[.int .i64 6, .int .i64 0, .string ⟨#[]⟩, .slice none 0 0, .slice al k cl, .slice none 0 0] 25) ∧ Hid (Dt.Rowing wr (D + 1) (.slice al k cl) ps ∧ ps.length = k) ∧ Hid (Rd.St wr P tb C xs us at_ er) ∧ Hid (Rd.LInv ta RR f (ps.map Dt.P.d) us at_ er ∧ f ≤ F) ∧ Hid (Keep (fun k => k = P) w wr) ∧ Hid (Keep (fun k => k = P ∨ D ≤ k) w3 wr)) (fun _ wr => Rd.meas wr P)
 case atStart => exact ⟨0, [], none, 0, F, r, 0, 0, HD3, HROW0, HST3, ⟨HV0.out, Nat.le_refl _⟩, HK3, Keep.refl _ _⟩
 case round =>
  clear HD3 HROW0 HST3 HV0 HK3
  obtain ⟨k, ps, al, cl, f, us, at_, er, HDB, HRW, HST, HV, HK, HK2⟩ := hrel
  obtain ⟨pa, pre, hP, hpre, hpa⟩ := HST.out
  have hTr := HT3.out.keep HK2.out (by have := HN.out; omega)
  have hRr := HR3.out.keep HK2.out (by have := HN.out; omega)
  have p0 := hP.cell 0 rfl
  have p2 := hP.cell 2 rfl
  have y0 := hTr.cell 0 rfl
  have y1 := hTr.cell 1 rfl
  have y2 := hTr.cell 2 rfl
  have y3 := hTr.cell 3 rfl
  have y4 := hTr.cell 4 rfl
  have hmeas := HST.out.meas
  have hgw : D < wr.heap.size := HDB.out.lt
  have HTR := Lib.hid hTr
  have HRR := Lib.hid hRr
  have HFIN : Hid (∀ (wz : World) (rest : List Lx.PTok) (a2 e2 : Int), Keep (fun k => k = P) w wz → Dt.Row (fun k => D + 1 ≤ k) wz (.slice al k cl) (ps.map Dt.P.d) → Rd.St wz P tb C xs rest a2 e2 → Rd.Says RR (Rd.listD (ps.map Dt.P.d)) rest a2 e2 → Rd.Out P tb C xs w RR (.returned (.agg #[.int .i64 6, .int .i64 0, .string ⟨#[]⟩, .slice none 0 0, .slice al k cl, .slice none 0 0])) (set6 wz R (.int .i64 6) (.int .i64 0) (.string ⟨#[]⟩) (.slice none 0 0) (.slice al k cl) (.slice none 0 0))) := fun wz rest a2 e2 h1 h2 h3 h4 =>
   Rd.Out.fin (x := Rd.listD (ps.map Dt.P.d)) h1 (by have := HN.out; omega) (by have := HN.out; omega) (Dt.Rep.mono (fun b hb _ => by have := HN.out; omega) _ (Rd.rep_row 6 h2)) (Rd.own_nz HRW.out.1.row) h3 h4
  by_cases he : er = 0
  case neg =>
   have he1 : (er == 0) = false := by simpa using he
   obtain ⟨b, hb1, hb2⟩ : ∃ b : Nat, at_ = (b : Int) ∧ RR = .bad b er := HV.out.1.elim (fun h => absurd h.1 he) (fun h => h.2)
   have HE := Lib.hid (HFIN.out wr us at_ er HK.out (HRW.out.2 ▸ HRW.out.1.to_row) HST.out (.inr ⟨b, er, hb2, hb1, rfl, he⟩))
   have d0 := HDB.out.cell 0 rfl
   have d1 := HDB.out.cell 1 rfl
   have d2 := HDB.out.cell 2 rfl
   have d3 := HDB.out.cell 3 rfl
   have d4 := HDB.out.cell 4 rfl
   have d5 := HDB.out.cell 5 rfl
   have r0 := hRr.cell 0 rfl
   have r1 := hRr.cell 1 rfl
   have r2 := hRr.cell 2 rfl
   have r3 := hRr.cell 3 rfl
   have r4 := hRr.cell 4 rfl
   have r5 := hRr.cell 5 rfl
   have k0 := hRr.frz 0
   have k1 := hRr.frz 1
   have k2 := hRr.frz 2
   have k3 := hRr.frz 3
   have k4 := hRr.frz 4
   have k5 := hRr.frz 5
   clear hP hpre hpa p0 hmeas hTr hRr hb1 hb2 he HV
   go_wp2
   refine bodyPost_ret (v := .agg #[.int .i64 6, .int .i64 0, .string ⟨#[]⟩, .slice none 0 0, .slice al k cl, .slice none 0 0]) (by simp [results, Try.results42, go_sem, *]) rfl ?_
   exact HE.out
  subst he
  obtain ⟨-, rfl, hpv, hro, ⟨q, rfl⟩, hkn⟩ : (0 : Int) = 0 ∧ at_ = 0 ∧ Rd.pl f ta (ps.map Dt.P.d) us = RR ∧ RR ≠ .out ∧ (∃ q, f = q + 1) ∧ (ps.map Dt.P.d).length + us.length ≤ 4096 := HV.out.1.elim id (fun h => absurd rfl h.1)
  have hfF := HV.out.2
  cases us with
  | nil =>
   rw [Rd.pl] at hpv
   have hf := fail_any P tb C xs [] (ta : Int) 41 wr HST.out
   rw [List.length_nil] at p0
   have HPV := Lib.hid hpv
   clear hP hpre hpa hmeas hTr hRr hpv hro HV hkn
   go_wp2_with fail
   refine hf.mono ?_
   rintro e w4 ⟨rfl, hst4, hk4⟩
   unfold Rd.zeroD
   have hR4 := HRR.out.keep hk4 (by have := HN.out; omega)
   have HE := Lib.hid (Rd.Out.fin (r := RR) (x := .mk 0 0 ⟨#[]⟩ [] [] []) (HK.out.trans hk4) (R := R) (by have := HN.out; omega) (by have := HN.out; omega) (Rd.rep_zero _ _) (.inl rfl) hst4 (.inr ⟨ta, 41, HPV.out.symm, rfl, rfl, by decide⟩))
   have r0 := hR4.cell 0 rfl
   have r1 := hR4.cell 1 rfl
   have r2 := hR4.cell 2 rfl
   have r3 := hR4.cell 3 rfl
   have r4 := hR4.cell 4 rfl
   have r5 := hR4.cell 5 rfl
   have k0 := hR4.frz 0
   have k1 := hR4.frz 1
   have k2 := hR4.frz 2
   have k3 := hR4.frz 3
   have k4 := hR4.frz 4
   have k5 := hR4.frz 5
   clear hf hst4 hk4 hR4 p0 p2 y0 y1 y2 y3 y4
   go_wp2
   refine bodyPost_ret (v := .agg #[.int .i64 0, .int .i64 0, .string ⟨#[]⟩, .slice none 0 0, .slice none 0 0, .slice none 0 0]) (by simp [results, Try.results42, go_sem, *]) rfl ?_
   exact HE.out
  | cons x us =>
   obtain rfl := hpa (by simp)
   have hlen : xs.length = pre.length + (us.length + 1) := by rw [hpre]; simp
   have hpi : pre.length < xs.length := by omega
   have hsrc := HSRC.out.keep HK.out (fun e => HG.out.ne e.symm)
   obtain ⟨x0, -, -, -, -⟩ := hsrc.tok pre.length hpi
   have hxi : xs[pre.length] = x := by simp only [hpre]; simp
   rw [hxi] at x0
   have hulen : us.length ≤ 4096 := by have := HG.out.few; omega
   rw [show (x :: us).length = us.length + 1 from rfl] at p0
   obtain ⟨n, hn⟩ : ∃ n, us.length = n := ⟨_, rfl⟩
   obtain ⟨cc, hcc⟩ : ∃ cc, C - pre.length = cc := ⟨_, rfl⟩
   obtain ⟨qq, hqq⟩ : ∃ qq, pre.length * 5 = qq := ⟨_, rfl⟩
   rw [hn, hcc, hqq] at p0
   rw [hqq] at x0
   have hn0 : (((n : Int) + 1) == 0) = false := by simp; omega
   have hnp : (0 : Int) < (n : Int) + 1 := by omega
   obtain ⟨xk, hxk⟩ : ∃ xk, x.t.k = xk := ⟨_, rfl⟩
   rw [hxk] at x0
   have HLN : Hid (us.length = n) := hn
   rw [Rd.pl, hxk] at hpv
   by_cases h2 : xk = 2
   ·have h2' : (xk == 2) = true := by simpa using h2
    rw [if_pos h2] at hpv
    have hnx := next_yes P tb C xs x us 0 0 wr hsrc HST.out HG.out.cap HG.out.few HG.out.C2
    have HPV := Lib.hid hpv
    clear hP hpre hpa hmeas hTr hRr hpv hro HV hkn hlen hpi hxi hulen hn hcc hqq hxk h2 hsrc
    go_wp2_with fail
    refine hnx.mono ?_
    rintro e w4 ⟨rfl, hst4, hk4⟩
    have hR4 := HRR.out.keep hk4 (by have := HN.out; omega)
    have hD4 := HDB.out.keep hk4 (by have := HN.out; omega)
    have hrow4 := HRW.out.1.keep hk4 (fun j hj _ e => by have := HN.out; omega)
    have HE := Lib.hid (HFIN.out w4 us 0 0 (HK.out.trans hk4) hrow4.to_row hst4 (.inl ⟨HPV.out.symm, rfl, rfl⟩))
    have d0 := hD4.cell 0 rfl
    have d1 := hD4.cell 1 rfl
    have d2 := hD4.cell 2 rfl
    have d3 := hD4.cell 3 rfl
    have d4 := hD4.cell 4 rfl
    have d5 := hD4.cell 5 rfl
    have r0 := hR4.cell 0 rfl
    have r1 := hR4.cell 1 rfl
    have r2 := hR4.cell 2 rfl
    have r3 := hR4.cell 3 rfl
    have r4 := hR4.cell 4 rfl
    have r5 := hR4.cell 5 rfl
    have k0 := hR4.frz 0
    have k1 := hR4.frz 1
    have k2 := hR4.frz 2
    have k3 := hR4.frz 3
    have k4 := hR4.frz 4
    have k5 := hR4.frz 5
    clear hnx hst4 hk4 hR4 hD4 hrow4 p0 p2 y0 y1 y2 y3 y4 x0
    go_wp2
    refine bodyPost_ret (v := .agg #[.int .i64 6, .int .i64 0, .string ⟨#[]⟩, .slice none 0 0, .slice al k cl, .slice none 0 0]) (by simp [results, Try.results42, go_sem, *]) rfl ?_
    exact HE.out
   ·have h2' : (xk == 2) = false := by simpa using h2
    rw [if_neg h2] at hpv
    by_cases h8 : xk = 8 ∧ ps.map Dt.P.d ≠ []
    case pos =>
     rw [if_pos h8] at hpv
     have h8' : (xk == 8) = true := by simpa using h8.1
     have hk1 : 0 < k := by
      have h1 := HRW.out.2
      have h3 := h8.2
      cases ps with
      | nil => exact absurd rfl h3
      | cons p l => simp at h1; omega
     have hk1' : decide ((0 : Int) < (k : Int)) = true := decide_eq_true (by omega)
     have hk1n : decide (0 < k) = true := decide_eq_true hk1
     have hto : Rd.pt q ta (ps.map Dt.P.d) us ≠ .out := by rw [hpv]; exact hro
     have hnx := next_yes P tb C xs x us 0 0 wr hsrc HST.out HG.out.cap HG.out.few HG.out.C2
     have HPV := Lib.hid hpv
     have HTO := Lib.hid hto
     have HKN : Hid (k + us.length ≤ 4096 ∧ q ≤ F) := ⟨by have := HRW.out.2; simp only [List.length_map, List.length_cons] at hkn; omega, by omega⟩
     have HSR := Lib.hid hsrc
     have d4 := HDB.out.cell 4 rfl
     clear hP hpre hpa hmeas hTr hRr hpv hro HV hkn hlen hpi hxi hulen hn hcc hqq hxk h2 hsrc h8 hk1 hto
     go_wp2_with fail
     refine hnx.mono ?_
     rintro e w4 ⟨rfl, hst4, hk4⟩
     have hT4 := HTR.out.keep hk4 (by have := HN.out; omega)
     have hD4 := HDB.out.keep hk4 (by have := HN.out; omega)
     have hrow4 := HRW.out.1.keep hk4 (fun j hj _ e => by have := HN.out; omega)
     have hsrc4 := HSR.out.keep hk4 (fun e => HG.out.ne e.symm)
     have hta := HTV.out.2
     have htl := tail_any P tb C xs HG.out q (fun g hg => HD.out g (by have := HKN.out.2; omega)) t us w4 (D + 1) ps al k cl hsrc4 hst4 hrow4 HRW.out.2 (by have := hD4.lt; omega) (by have := HN.out; omega) HKN.out.1 (by rw [hta]; exact HTO.out)
     rw [HTV.out.1, hta, HPV.out] at htl
     have HR4 := Lib.hid (HRR.out.keep hk4 (by have := HN.out; omega))
     have HK4 := Lib.hid hk4
     have y0 := hT4.cell 0 rfl
     have y1 := hT4.cell 1 rfl
     have y2 := hT4.cell 2 rfl
     have y3 := hT4.cell 3 rfl
     have y4 := hT4.cell 4 rfl
     have d0 := hD4.cell 0 rfl
     have d1 := hD4.cell 1 rfl
     have d2 := hD4.cell 2 rfl
     have d3 := hD4.cell 3 rfl
     have d4 := hD4.cell 4 rfl
     have d5 := hD4.cell 5 rfl
     clear hnx hst4 hk4 hT4 hD4 hrow4 hsrc4 hta p0 p2 x0
     go_wp2_with fail
     refine htl.mono ?_
     rintro e w5 ⟨y, vm, vl, vt, rest, a2, e2, rfl, hr5, hz5, hst5, hk5, hsay⟩
     obtain ⟨b1, m1, p1, b2, m2, p2, b3, m3, p3, rfl, rfl, rfl⟩ := hr5.forms
     have hR5 := HR4.out.keep hk5 (by have := HN.out; omega)
     have hkw : Keep (fun k => k = P) w w5 := ((HK.out.trans HK4.out).le (T := fun k => k = P ∨ D + 1 ≤ k) (fun j e => .inl e)).trans hk5 |>.mono (fun j hj e => by have := HN.out; omega)
     have HE := Lib.hid (Rd.Out.fin (x := y) hkw (R := R) (by have := HN.out; omega) (by have := HN.out; omega) (Dt.Rep.mono (fun j hj _ => by have := HN.out; omega) y hr5) hz5 hst5 hsay)
     have r0 := hR5.cell 0 rfl
     have r1 := hR5.cell 1 rfl
     have r2 := hR5.cell 2 rfl
     have r3 := hR5.cell 3 rfl
     have r4 := hR5.cell 4 rfl
     have r5 := hR5.cell 5 rfl
     have k0 := hR5.frz 0
     have k1 := hR5.frz 1
     have k2 := hR5.frz 2
     have k3 := hR5.frz 3
     have k4 := hR5.frz 4
     have k5 := hR5.frz 5
     clear htl hr5 hz5 hst5 hk5 hsay hR5 hkw y0 y1 y2 y3 y4 d0 d1 d2 d3 d4 d5
     go_wp2
     refine bodyPost_ret (v := .agg #[.int .i64 y.k, .int .i64 y.n, .string y.s, .slice b1 m1 p1, .slice b2 m2 p2, .slice b3 m3 p3]) (by simp [results, Try.results42, go_sem, *]) rfl ?_
     exact HE.out
    case neg =>
     rw [if_neg h8] at hpv
     by_cases h88 : xk = 8
     case pos =>
      have h8' : (xk == 8) = true := by simpa using h88
      have hk0 : k = 0 := by
       have h1 := HRW.out.2
       have h3 : ps.map Dt.P.d = [] := Classical.byContradiction fun h => h8 ⟨h88, h⟩
       have h4 : ps = [] := List.map_eq_nil_iff.1 h3
       rw [h4] at h1
       exact h1.symm
      have hk1' : decide ((0 : Int) < (k : Int)) = false := decide_eq_false (by omega)
      have hk1n : decide (0 < k) = false := decide_eq_false (by omega)
      have d4 := HDB.out.cell 4 rfl
      clear h8 h88 hk0
      have hdo : Rd.pd q (x :: us) ≠ .out := fun e => by rw [e] at hpv; exact hro hpv.symm
      have hrl := (Rd.res_len q).1 (x :: us) us.length (by simp)
      have hcall := HD.out q (by omega) (x :: us) wr.drew (by simp) (hsrc.below ((Below.refl _ wr).drew)) (HST.out.below ((Below.refl _ wr).drew)) hdo
      have hnext : ∀ (y : Dt.D) (rest : List Lx.PTok) (a2 e2 : Int), Rd.Says (Rd.pd q (x :: us)) y rest a2 e2 → Rd.LInv ta RR q (ps.map Dt.P.d ++ [y]) rest a2 e2 ∧ (if e2 = 0 then rest.length + 1 else 0) < n + 2 := by
       intro y rest a2 e2 hs
       rcases hs with ⟨e, rfl, rfl⟩ | ⟨b, c, e, rfl, rfl, hc0⟩
       ·rw [e] at hpv hrl
        have hl : rest.length ≤ us.length := hrl
        refine ⟨.inl ⟨rfl, rfl, hpv, hro, ?_, by simp only [List.length_append, List.length_cons, List.length_nil] at hkn ⊢; omega⟩, by rw [if_pos rfl]; omega⟩
        cases q with
        | zero => simp only [Rd.pl] at hpv; exact absurd hpv.symm hro
        | succ q => exact ⟨q, rfl⟩
       ·rw [e] at hpv
        exact ⟨.inr ⟨hc0, b, rfl, hpv.symm⟩, by rw [if_neg hc0]; omega⟩
      obtain ⟨RES, hRES⟩ : ∃ RES, Rd.pd q (x :: us) = RES := ⟨_, rfl⟩
      rw [hRES] at hcall hnext
      have HCL := Lib.hid hcall
      have hkl : k ≤ 4096 := by have := HRW.out.2; simp only [List.length_map, List.length_cons] at hkn; omega
      have c4 := HDB.out.cell 4 rfl
      have HDALL : Hid (∀ W, Keep (fun j => j = P) wr W → W.cell? ⟨D, 4, none⟩ = some (.slice al k cl) ∧ D + 1 ≤ W.heap.size ∧ W.ownsRow (D + 1) 25 6 (.slice al k cl) k (Dt.flatP ps)) := fun W hW =>
       ⟨(HDB.out.keep hW (by have := HN.out; omega)).cell 4 rfl, by have := (HDB.out.keep hW (by have := HN.out; omega)).lt; omega, by
        have h := (HRW.out.1.keep hW (fun j hj _ e => by have := HN.out; omega)).row
        rw [HRW.out.2] at h
        exact h⟩
      have HPUSH : Hid (∀ (w2 wD w5 : World) (y : Dt.D) (b1 b2 b3 : Option Addr) (m1 m2 m3 p1 p2 p3 : Nat) (v' : Value) (rest : List Lx.PTok) (a2 e2 : Int), Keep (fun j => j = P) wr w2 → Dt.Rep (fun j => wr.heap.size ≤ j) w2 y (.slice b1 m1 p1) (.slice b2 m2 p2) (.slice b3 m3 p3) → Rd.St w2 P tb C xs rest a2 e2 → Rd.Says RES y rest a2 e2 → Below w2.heap.size w2 wD →
        w5.ownsRow (D + 1) 25 6 v' (k + 1) (Dt.flatP ps ++ [.int .i64 y.k, .int .i64 y.n, .string y.s, .slice b1 m1 p1, .slice b2 m2 p2, .slice b3 m3 p3]) → wD.grownBy w5 (Value.slice al k cl).ownBlock → (v'.ownBlock = (Value.slice al k cl).ownBlock ∨ v'.ownBlock = some wD.heap.size) →
        w5.cell? ⟨D, 4, none⟩ = some (.slice al k cl) ∧ w5.frozen? ⟨D, 4, none⟩ = false ∧ Hid (Hp (w5.setCell ⟨D, 4, none⟩ v') D #[.int .i64 6, .int .i64 0, .string ⟨#[]⟩, .slice none 0 0, v', .slice none 0 0] 25 ∧ (Dt.Rowing (w5.setCell ⟨D, 4, none⟩ v') (D + 1) v' (ps ++ [Dt.P.mk y (.slice b1 m1 p1) (.slice b2 m2 p2) (.slice b3 m3 p3)]) ∧ (ps ++ [Dt.P.mk y (.slice b1 m1 p1) (.slice b2 m2 p2) (.slice b3 m3 p3)]).length = k + 1) ∧ Rd.St (w5.setCell ⟨D, 4, none⟩ v') P tb C xs rest a2 e2 ∧ (Rd.LInv ta RR q ((ps ++ [Dt.P.mk y (.slice b1 m1 p1) (.slice b2 m2 p2) (.slice b3 m3 p3)]).map Dt.P.d) rest a2 e2 ∧ q ≤ F) ∧ Keep (fun j => j = P) w (w5.setCell ⟨D, 4, none⟩ v') ∧ Keep (fun j => j = P ∨ D ≤ j) w3 (w5.setCell ⟨D, 4, none⟩ v') ∧ Rd.meas (w5.setCell ⟨D, 4, none⟩ v') P < Rd.meas wr P)) := by
       intro w2 wD w5 y b1 b2 b3 m1 m2 m3 p1 p2 p3 v' rest a2 e2 hk2 hr2 hst2 hs2 hbD hown hgr hat
       have hN := HN.out
       have hlp := HRW.out.2
       have hown2 : w5.ownsRow (D + 1) 25 6 v' (ps.length + 1) (Dt.flatP ps ++ (Dt.P.mk y (.slice b1 m1 p1) (.slice b2 m2 p2) (.slice b3 m3 p3)).cells) := by rw [hlp]; exact hown
       obtain ⟨g1, g2⟩ := Rd.pushK HRW.out.1 (by have := HDB.out.lt; omega) hk2 (fun j hj e => by omega) hr2 hbD hown2 hgr hat
       have hvb : ∀ j, (Value.slice al k cl).ownBlock = some j → D + 1 ≤ j ∧ j < wr.heap.size := fun j e => Dt.own_lt HRW.out.1.row j e
       have hD5 := HDB.out.keep g2 (fun e => e.elim (fun e => by omega) (fun e => by have := hvb D e; omega))
       have hk6 : Keep (fun j => j = D) w5 (w5.setCell ⟨D, 4, none⟩ v') := set_keep _ _ _ _
       have hst5 : Rd.St (w5.setCell ⟨D, 4, none⟩ v') P tb C xs rest a2 e2 := by
        refine ((hst2.below hbD).keep (Dt.Cd_keep_grown hgr) (fun e => by have := hvb P e; omega)).keep hk6 (by omega)
       have hkw : Keep (fun j => j = P ∨ D ≤ j) wr (w5.setCell ⟨D, 4, none⟩ v') := (g2.le (fun j e => e.elim .inl (fun e => .inr (by have := hvb j e; omega)))).trans (hk6.le (fun j e => .inr (by omega)))
       obtain ⟨n1, n2⟩ := hnext y rest a2 e2 hs2
       refine ⟨hD5.cell 4 rfl, hD5.frz 4, hD5.set 4 _, ⟨g1.keep hk6 (fun j hj _ e => by omega), by rw [List.length_append, hlp]; rfl⟩, hst5, ⟨by rw [List.map_append]; exact n1, by omega⟩, ?_, HK2.out.trans hkw, ?_⟩
       ·exact (((HK.out.le (T := fun j => j = P ∨ D ≤ j) (fun j e => .inl e)).trans hkw)).mono (fun j hj e => by omega)
       ·rw [hst5.meas, HST.out.meas, if_pos rfl]
        simp only [List.length_cons]
        omega
      have hm1 : k + 1 ≤ maxLen := by unfold maxLen; omega
      have hm2 : (k + 1) * 104 ≤ 140737488355328 := by omega
      have HBD : Hid (Keep (fun j => j = P) wr wr.drew) := (Keep.refl _ wr).drew 1
      obtain ⟨-, HB0, -⟩ := HDALL.out wr (Keep.refl _ _)
      clear hP hpre hpa hmeas hTr hRr hpv hro HV hkn hlen hpi hxi hulen hn hcc hqq hxk h2 hsrc hdo hrl hcall hnext hRES HRW HST HK HK2 HDB HFIN HTR HRR hkl
      go_upto_region 12 with fail
      clear p0 p2 y0 y1 y2 y3 y4 x0
      go_region_law (first | (refine Ap.step rfl (.tmp 53) (.tmp 56) 23 (by kernel_rfl) (D + 1) 25 i0 (.agg #[.int .i64 0, .int .i64 0, .string ⟨#[]⟩, .slice none 0 0, .slice none 0 0, .slice none 0 0]) 6 104 Try.underlying23 HI1.out HZ0.out HZ1.out HZ2.out rfl (by decide) (.slice al k cl) k (Dt.flatP ps) (by kernel_rfl) HOWND.out (.slice (some ⟨w2.heap.size, 0, none⟩) 1 1) 1 [.int .i64 y.k, .int .i64 y.n, .string y.s, .slice b1 m1 p1, .slice b2 m2 p2, .slice b3 m3 p3] (by kernel_rfl) HSRD.out rfl (by simp [Value.oneCell']) hm1 hm2 HBS.out ?_; intro v' w5 hown hgrow hat; obtain ⟨a5, c5, rfl⟩ := Dt.row_form hown; obtain ⟨d1, f1, HFN⟩ := HPUSH.out w2 wD w5 y b1 b2 b3 m1 m2 m3 p1 p2 p3 _ rest a2 e2 HKW.out HR2W.out HSTW.out HSAY.out HBWD.out hown hgrow hat; clear hown hgrow hat) | (go_simp; refine HCL.out.mono ?_; rintro e w2 ⟨y, vm, vl, vt, rest, a2, e2, rfl, hr2, -, hst2, hk2, hsay⟩; obtain ⟨b1, m1, p1, b2, m2, p2, b3, m3, p3, rfl, rfl, rfl⟩ := hr2.forms; have HKW : Hid (Keep (fun j => j = P) wr w2) := HBD.out.trans hk2; have HR2W : Hid (Dt.Rep (fun k => wr.heap.size ≤ k) w2 y (.slice b1 m1 p1) (.slice b2 m2 p2) (.slice b3 m3 p3)) := hr2; have HSTW := Lib.hid hst2; have HSAY := Lib.hid hsay; obtain ⟨wD, hwD⟩ : ∃ wD, w2.alloc (.cells #[.int .i64 y.k, .int .i64 y.n, .string y.s, .slice b1 m1 p1, .slice b2 m2 p2, .slice b3 m3 p3] 25) = wD := ⟨_, rfl⟩; have HBWD : Hid (Below w2.heap.size w2 wD) := (new_below hwD).1; have HSRD : Hid (Ap.Src wD (.slice (some ⟨w2.heap.size, 0, none⟩) 1 1) 1 [.int .i64 y.k, .int .i64 y.n, .string y.s, .slice b1 m1 p1, .slice b2 m2 p2, .slice b3 m3 p3]) := Rd.srcNew hwD; obtain ⟨e1, -, -⟩ := HDALL.out w2 HKW.out; obtain ⟨e3, hbs, howD⟩ := HDALL.out wD (HKW.out.trans (keep_of_below HBWD.out)); have HBS := Lib.hid hbs; have HOWND := Lib.hid howD; clear hr2 hst2 hk2 hsay hbs howD; dsimp only))
      all_goals
       go_wp2
       go_roundw
       case rel =>
        obtain ⟨h1, h2, h3, h4, h5, h6, h7⟩ := HFN.out
        exact ⟨k + 1, ps ++ [Dt.P.mk y (.slice b1 m1 p1) (.slice b2 m2 p2) (.slice b3 m3 p3)], a5, c5, q, rest, a2, e2, h1, h2, h3, h4, h5, h6⟩
       case measure => exact HFN.out.2.2.2.2.2.2
     case neg =>
      have h8' : (xk == 8) = false := by simpa using h88
      clear h8 h88
      have hdo : Rd.pd q (x :: us) ≠ .out := fun e => by rw [e] at hpv; exact hro hpv.symm
      have hrl := (Rd.res_len q).1 (x :: us) us.length (by simp)
      have hcall := HD.out q (by omega) (x :: us) wr.drew (by simp) (hsrc.below ((Below.refl _ wr).drew)) (HST.out.below ((Below.refl _ wr).drew)) hdo
      have hnext : ∀ (y : Dt.D) (rest : List Lx.PTok) (a2 e2 : Int), Rd.Says (Rd.pd q (x :: us)) y rest a2 e2 → Rd.LInv ta RR q (ps.map Dt.P.d ++ [y]) rest a2 e2 ∧ (if e2 = 0 then rest.length + 1 else 0) < n + 2 := by
       intro y rest a2 e2 hs
       rcases hs with ⟨e, rfl, rfl⟩ | ⟨b, c, e, rfl, rfl, hc0⟩
       ·rw [e] at hpv hrl
        have hl : rest.length ≤ us.length := hrl
        refine ⟨.inl ⟨rfl, rfl, hpv, hro, ?_, by simp only [List.length_append, List.length_cons, List.length_nil] at hkn ⊢; omega⟩, by rw [if_pos rfl]; omega⟩
        cases q with
        | zero => simp only [Rd.pl] at hpv; exact absurd hpv.symm hro
        | succ q => exact ⟨q, rfl⟩
       ·rw [e] at hpv
        exact ⟨.inr ⟨hc0, b, rfl, hpv.symm⟩, by rw [if_neg hc0]; omega⟩
      obtain ⟨RES, hRES⟩ : ∃ RES, Rd.pd q (x :: us) = RES := ⟨_, rfl⟩
      rw [hRES] at hcall hnext
      have HCL := Lib.hid hcall
      have hkl : k ≤ 4096 := by have := HRW.out.2; simp only [List.length_map, List.length_cons] at hkn; omega
      have c4 := HDB.out.cell 4 rfl
      have HDALL : Hid (∀ W, Keep (fun j => j = P) wr W → W.cell? ⟨D, 4, none⟩ = some (.slice al k cl) ∧ D + 1 ≤ W.heap.size ∧ W.ownsRow (D + 1) 25 6 (.slice al k cl) k (Dt.flatP ps)) := fun W hW =>
       ⟨(HDB.out.keep hW (by have := HN.out; omega)).cell 4 rfl, by have := (HDB.out.keep hW (by have := HN.out; omega)).lt; omega, by
        have h := (HRW.out.1.keep hW (fun j hj _ e => by have := HN.out; omega)).row
        rw [HRW.out.2] at h
        exact h⟩
      have HPUSH : Hid (∀ (w2 wD w5 : World) (y : Dt.D) (b1 b2 b3 : Option Addr) (m1 m2 m3 p1 p2 p3 : Nat) (v' : Value) (rest : List Lx.PTok) (a2 e2 : Int), Keep (fun j => j = P) wr w2 → Dt.Rep (fun j => wr.heap.size ≤ j) w2 y (.slice b1 m1 p1) (.slice b2 m2 p2) (.slice b3 m3 p3) → Rd.St w2 P tb C xs rest a2 e2 → Rd.Says RES y rest a2 e2 → Below w2.heap.size w2 wD →
        w5.ownsRow (D + 1) 25 6 v' (k + 1) (Dt.flatP ps ++ [.int .i64 y.k, .int .i64 y.n, .string y.s, .slice b1 m1 p1, .slice b2 m2 p2, .slice b3 m3 p3]) → wD.grownBy w5 (Value.slice al k cl).ownBlock → (v'.ownBlock = (Value.slice al k cl).ownBlock ∨ v'.ownBlock = some wD.heap.size) →
        w5.cell? ⟨D, 4, none⟩ = some (.slice al k cl) ∧ w5.frozen? ⟨D, 4, none⟩ = false ∧ Hid (Hp (w5.setCell ⟨D, 4, none⟩ v') D #[.int .i64 6, .int .i64 0, .string ⟨#[]⟩, .slice none 0 0, v', .slice none 0 0] 25 ∧ (Dt.Rowing (w5.setCell ⟨D, 4, none⟩ v') (D + 1) v' (ps ++ [Dt.P.mk y (.slice b1 m1 p1) (.slice b2 m2 p2) (.slice b3 m3 p3)]) ∧ (ps ++ [Dt.P.mk y (.slice b1 m1 p1) (.slice b2 m2 p2) (.slice b3 m3 p3)]).length = k + 1) ∧ Rd.St (w5.setCell ⟨D, 4, none⟩ v') P tb C xs rest a2 e2 ∧ (Rd.LInv ta RR q ((ps ++ [Dt.P.mk y (.slice b1 m1 p1) (.slice b2 m2 p2) (.slice b3 m3 p3)]).map Dt.P.d) rest a2 e2 ∧ q ≤ F) ∧ Keep (fun j => j = P) w (w5.setCell ⟨D, 4, none⟩ v') ∧ Keep (fun j => j = P ∨ D ≤ j) w3 (w5.setCell ⟨D, 4, none⟩ v') ∧ Rd.meas (w5.setCell ⟨D, 4, none⟩ v') P < Rd.meas wr P)) := by
       intro w2 wD w5 y b1 b2 b3 m1 m2 m3 p1 p2 p3 v' rest a2 e2 hk2 hr2 hst2 hs2 hbD hown hgr hat
       have hN := HN.out
       have hlp := HRW.out.2
       have hown2 : w5.ownsRow (D + 1) 25 6 v' (ps.length + 1) (Dt.flatP ps ++ (Dt.P.mk y (.slice b1 m1 p1) (.slice b2 m2 p2) (.slice b3 m3 p3)).cells) := by rw [hlp]; exact hown
       obtain ⟨g1, g2⟩ := Rd.pushK HRW.out.1 (by have := HDB.out.lt; omega) hk2 (fun j hj e => by omega) hr2 hbD hown2 hgr hat
       have hvb : ∀ j, (Value.slice al k cl).ownBlock = some j → D + 1 ≤ j ∧ j < wr.heap.size := fun j e => Dt.own_lt HRW.out.1.row j e
       have hD5 := HDB.out.keep g2 (fun e => e.elim (fun e => by omega) (fun e => by have := hvb D e; omega))
       have hk6 : Keep (fun j => j = D) w5 (w5.setCell ⟨D, 4, none⟩ v') := set_keep _ _ _ _
       have hst5 : Rd.St (w5.setCell ⟨D, 4, none⟩ v') P tb C xs rest a2 e2 := by
        refine ((hst2.below hbD).keep (Dt.Cd_keep_grown hgr) (fun e => by have := hvb P e; omega)).keep hk6 (by omega)
       have hkw : Keep (fun j => j = P ∨ D ≤ j) wr (w5.setCell ⟨D, 4, none⟩ v') := (g2.le (fun j e => e.elim .inl (fun e => .inr (by have := hvb j e; omega)))).trans (hk6.le (fun j e => .inr (by omega)))
       obtain ⟨n1, n2⟩ := hnext y rest a2 e2 hs2
       refine ⟨hD5.cell 4 rfl, hD5.frz 4, hD5.set 4 _, ⟨g1.keep hk6 (fun j hj _ e => by omega), by rw [List.length_append, hlp]; rfl⟩, hst5, ⟨by rw [List.map_append]; exact n1, by omega⟩, ?_, HK2.out.trans hkw, ?_⟩
       ·exact (((HK.out.le (T := fun j => j = P ∨ D ≤ j) (fun j e => .inl e)).trans hkw)).mono (fun j hj e => by omega)
       ·rw [hst5.meas, HST.out.meas, if_pos rfl]
        simp only [List.length_cons]
        omega
      have hm1 : k + 1 ≤ maxLen := by unfold maxLen; omega
      have hm2 : (k + 1) * 104 ≤ 140737488355328 := by omega
      have HBD : Hid (Keep (fun j => j = P) wr wr.drew) := (Keep.refl _ wr).drew 1
      obtain ⟨-, HB0, -⟩ := HDALL.out wr (Keep.refl _ _)
      clear hP hpre hpa hmeas hTr hRr hpv hro HV hkn hlen hpi hxi hulen hn hcc hqq hxk h2 hsrc hdo hrl hcall hnext hRES HRW HST HK HK2 HDB HFIN HTR HRR hkl
      go_upto_region 12 with fail
      clear p0 p2 y0 y1 y2 y3 y4 x0
      go_region_law (first | (refine Ap.step rfl (.tmp 53) (.tmp 56) 23 (by kernel_rfl) (D + 1) 25 i0 (.agg #[.int .i64 0, .int .i64 0, .string ⟨#[]⟩, .slice none 0 0, .slice none 0 0, .slice none 0 0]) 6 104 Try.underlying23 HI1.out HZ0.out HZ1.out HZ2.out rfl (by decide) (.slice al k cl) k (Dt.flatP ps) (by kernel_rfl) HOWND.out (.slice (some ⟨w2.heap.size, 0, none⟩) 1 1) 1 [.int .i64 y.k, .int .i64 y.n, .string y.s, .slice b1 m1 p1, .slice b2 m2 p2, .slice b3 m3 p3] (by kernel_rfl) HSRD.out rfl (by simp [Value.oneCell']) hm1 hm2 HBS.out ?_; intro v' w5 hown hgrow hat; obtain ⟨a5, c5, rfl⟩ := Dt.row_form hown; obtain ⟨d1, f1, HFN⟩ := HPUSH.out w2 wD w5 y b1 b2 b3 m1 m2 m3 p1 p2 p3 _ rest a2 e2 HKW.out HR2W.out HSTW.out HSAY.out HBWD.out hown hgrow hat; clear hown hgrow hat) | (go_simp; refine HCL.out.mono ?_; rintro e w2 ⟨y, vm, vl, vt, rest, a2, e2, rfl, hr2, -, hst2, hk2, hsay⟩; obtain ⟨b1, m1, p1, b2, m2, p2, b3, m3, p3, rfl, rfl, rfl⟩ := hr2.forms; have HKW : Hid (Keep (fun j => j = P) wr w2) := HBD.out.trans hk2; have HR2W : Hid (Dt.Rep (fun k => wr.heap.size ≤ k) w2 y (.slice b1 m1 p1) (.slice b2 m2 p2) (.slice b3 m3 p3)) := hr2; have HSTW := Lib.hid hst2; have HSAY := Lib.hid hsay; obtain ⟨wD, hwD⟩ : ∃ wD, w2.alloc (.cells #[.int .i64 y.k, .int .i64 y.n, .string y.s, .slice b1 m1 p1, .slice b2 m2 p2, .slice b3 m3 p3] 25) = wD := ⟨_, rfl⟩; have HBWD : Hid (Below w2.heap.size w2 wD) := (new_below hwD).1; have HSRD : Hid (Ap.Src wD (.slice (some ⟨w2.heap.size, 0, none⟩) 1 1) 1 [.int .i64 y.k, .int .i64 y.n, .string y.s, .slice b1 m1 p1, .slice b2 m2 p2, .slice b3 m3 p3]) := Rd.srcNew hwD; obtain ⟨e1, -, -⟩ := HDALL.out w2 HKW.out; obtain ⟨e3, hbs, howD⟩ := HDALL.out wD (HKW.out.trans (keep_of_below HBWD.out)); have HBS := Lib.hid hbs; have HOWND := Lib.hid howD; clear hr2 hst2 hk2 hsay hbs howD; dsimp only))
      all_goals
       go_wp2
       go_roundw
       case rel =>
        obtain ⟨h1, h2, h3, h4, h5, h6, h7⟩ := HFN.out
        exact ⟨k + 1, ps ++ [Dt.P.mk y (.slice b1 m1 p1) (.slice b2 m2 p2) (.slice b3 m3 p3)], a5, c5, q, rest, a2, e2, h1, h2, h3, h4, h5, h6⟩
       case measure => exact HFN.out.2.2.2.2.2.2
end Go.Proofs.Ytcopdfihaheplaa
namespace Go.Proofs.Ytcopdfihaheplaa
open Go.RowKit
attribute [local go_sem] Oper.semAt_some
set_option maxRecDepth 100000 in
theorem signs_any (w : World) : Calls Try.prog 51 #[] w fun e w' => e = .returned (.agg #[.string ⟨#[113, 117, 111, 116, 101]⟩, .string ⟨#[113, 117, 97, 115, 105, 113, 117, 111, 116, 101]⟩, .string ⟨#[117, 110, 113, 117, 111, 116, 101]⟩, .string ⟨#[117, 110, 113, 117, 111, 116, 101, 45, 115, 112, 108, 105, 99, 105, 110, 103]⟩]) ∧ Below w.heap.size w w' := by
 go_enter Try.func51, Try.ntmps51
 go_wp2
 exact bodyPost_ret (v := .agg #[.string ⟨#[113, 117, 111, 116, 101]⟩, .string ⟨#[113, 117, 97, 115, 105, 113, 117, 111, 116, 101]⟩, .string ⟨#[117, 110, 113, 117, 111, 116, 101]⟩, .string ⟨#[117, 110, 113, 117, 111, 116, 101, 45, 115, 112, 108, 105, 99, 105, 110, 103]⟩]) (by simp [results, Try.results51, go_sem]) rfl ⟨rfl, (Below.refl _ _).alloc (Nat.le_refl _) _⟩
set_option maxRecDepth 100000 in
set_option maxHeartbeats 4000000 in
theorem dataClone_any (b n c : Nat) (qs : List Dt.P) (w : World) (hsrc : ∀ j u, (Dt.flatP qs)[j]? = some u → w.cell? ((⟨b, 0, none⟩ : Addr).add j) = some u) (hn : qs.length = n) (hl : n ≤ 4096) (h1 : ∀ u ∈ Dt.flatP qs, u.oneCell' = true) :
  Calls Try.prog 92 #[.slice (some ⟨b, 0, none⟩) n c] w fun e w' => ∃ v', e = .returned v' ∧ w'.ownsRow w.heap.size 25 6 v' n (Dt.flatP qs) ∧ Below w.heap.size w w' := by
 have hnil := Lib.run_eql_slice_nil (P := Try.prog) w 23 25 (some ⟨b, 0, none⟩) n c 0 0 Try.underlying23
 obtain ⟨i1, hi1, hy0, hy1, hy2⟩ := info_parts Dt.infoD
 have hm1 : 0 + n ≤ maxLen := by unfold maxLen; omega
 have hm2 : (0 + n) * 104 ≤ 140737488355328 := by omega
 obtain ⟨wA, hwA⟩ : ∃ wA, w.alloc (.cells #[] 25) = wA := ⟨_, rfl⟩
 have hb : Below w.heap.size w wA := by rw [← hwA]; exact (Below.refl _ _).alloc (Nat.le_refl _) _
 have hown : wA.ownsRow w.heap.size 25 6 (.slice (some ⟨w.heap.size, 0, none⟩) 0 0) 0 [] := by rw [← hwA]; exact World.ownsRow_made w #[] 0 (Nat.le_refl _) (by decide) (by simp)
 have hsA : Ap.Src wA (.slice (some ⟨b, 0, none⟩) n c) n (Dt.flatP qs) := .inr ⟨_, _, rfl, fun j u hu => (hb.cell (World.block_lt_of_cell? w _ (hsrc j u hu))).trans (hsrc j u hu)⟩
 have hln : (Dt.flatP qs).length = n * 6 := by rw [Rd.flatP_len, hn]
 obtain ⟨X, hX⟩ : ∃ X, Dt.flatP qs = X := ⟨_, rfl⟩
 rw [hX] at hsA hln h1 ⊢
 have HS := Lib.hid hsA
 have HO := Lib.hid hown
 have HB := Lib.hid hb
 have HLN := Lib.hid hln
 have H1 := Lib.hid h1
 clear hsrc hown hb hX hsA hln h1 hn
 go_enter Try.func92, Try.ntmps92
 go_wp2_with (at_builtin; refine Ap.list rfl _ _ 23 rfl w.heap.size 25 i1 (.agg #[.int .i64 0, .int .i64 0, .string ⟨#[]⟩, .slice none 0 0, .slice none 0 0, .slice none 0 0]) 6 104 Try.underlying23 hi1 hy0 hy1 hy2 rfl (by decide) (.slice (some ⟨w.heap.size, 0, none⟩) 0 0) 0 [] rfl HO.out (.slice (some ⟨b, 0, none⟩) n c) n X rfl HS.out HLN.out H1.out hm1 hm2 HB.out.size ?_; intro v' w5 hown hg hat; obtain ⟨a5, c5, rfl⟩ := Dt.row_form hown)
 go_ret
 simp only [Nat.zero_add, List.nil_append] at hown
 exact ⟨_, rfl, by simpa using hown, Dt.grown_below HB.out hg (Nat.le_refl _) (fun k hk => by cases hk; exact Nat.le_refl _)⟩
set_option maxRecDepth 100000 in
set_option maxHeartbeats 4000000 in
theorem dataList_any (b n c : Nat) (qs : List Dt.P) (w : World) (hsrc : ∀ j u, (Dt.flatP qs)[j]? = some u → w.cell? ((⟨b, 0, none⟩ : Addr).add j) = some u) (hn : qs.length = n) (hl : n ≤ 4096) (h1 : ∀ u ∈ Dt.flatP qs, u.oneCell' = true) :
  Calls Try.prog 69 #[.slice (some ⟨b, 0, none⟩) n c] w fun e w' => ∃ a' c', e = .returned (.agg #[.int .i64 6, .int .i64 0, .string ⟨#[]⟩, .slice none 0 0, .slice a' n c', .slice none 0 0]) ∧ w'.ownsRow w.heap.size 25 6 (.slice a' n c') n (Dt.flatP qs) ∧ Below w.heap.size w w' := by
 obtain ⟨w1, hw1⟩ : ∃ w1, w.alloc (.cells #[.int .i64 0, .int .i64 0, .string ⟨#[]⟩, .slice none 0 0, .slice none 0 0, .slice none 0 0] 25) = w1 := ⟨_, rfl⟩
 obtain ⟨hb1, hs1⟩ := new_below hw1
 have hR1 := Hp.new hw1
 have hcl := dataClone_any b n c qs w1 (fun j u hu => (hb1.cell (World.block_lt_of_cell? w _ (hsrc j u hu))).trans (hsrc j u hu)) hn hl h1
 have HB1 := Lib.hid hb1
 have HR1 := Lib.hid hR1
 have HS1 := Lib.hid hs1
 obtain ⟨R, hR⟩ : ∃ R, w.heap.size = R := ⟨_, rfl⟩
 have HRR := Lib.hid hR
 clear hsrc hn hl h1 hb1 hs1 hR1
 go_enter Try.func69, Try.ntmps69
 go_wp2_with fail
 refine hcl.mono ?_
 rintro e w2 ⟨v', rfl, hown, hb2⟩
 obtain ⟨a', c', rfl⟩ := Dt.row_form hown
 have hR2 := HR1.out.below hb2
 rw [HRR.out] at hR2
 have hk3 := set6_keep w2 R (.int .i64 6) (.int .i64 0) (.string ⟨#[]⟩) (.slice none 0 0) (.slice a' n c') (.slice none 0 0)
 have HE : Hid ((set6 w2 R (.int .i64 6) (.int .i64 0) (.string ⟨#[]⟩) (.slice none 0 0) (.slice a' n c') (.slice none 0 0)).ownsRow w.heap.size 25 6 (.slice a' n c') n (Dt.flatP qs) ∧ Below w.heap.size w (set6 w2 R (.int .i64 6) (.int .i64 0) (.string ⟨#[]⟩) (.slice none 0 0) (.slice a' n c') (.slice none 0 0))) := by
  have h1 := HS1.out
  have h2 := HRR.out
  refine ⟨?_, (HB1.out.trans (hb2.mono HB1.out.size)).trans (hk3.to_below (fun k e => by omega) (by have := hb2.size; omega))⟩
  have h3 := Dt.own_keep hown hk3 (fun k e => by have := (Dt.own_lt hown k e).1; omega)
  exact Rd.own_base h3 (by omega)
 have r0 := hR2.cell 0 rfl
 have r1 := hR2.cell 1 rfl
 have r2 := hR2.cell 2 rfl
 have r3 := hR2.cell 3 rfl
 have r4 := hR2.cell 4 rfl
 have r5 := hR2.cell 5 rfl
 have k0 := hR2.frz 0
 have k1 := hR2.frz 1
 have k2 := hR2.frz 2
 have k3 := hR2.frz 3
 have k4 := hR2.frz 4
 have k5 := hR2.frz 5
 clear hcl hown hb2 hR2 hk3 hw1
 go_wp2
 refine bodyPost_ret (v := .agg #[.int .i64 6, .int .i64 0, .string ⟨#[]⟩, .slice none 0 0, .slice a' n c', .slice none 0 0]) (by simp [results, Try.results69, go_sem, *]) rfl ?_
 exact ⟨_, _, rfl, HE.out⟩
set_option maxRecDepth 100000 in
set_option maxHeartbeats 16000000 in
theorem quote_4 (P tb C : Nat) (xs : List Lx.PTok) (hG : Rd.G P tb C xs) (F : Nat) (hD : ∀ g, g < F → Rd.DatumIs P tb C xs g) (ta : Nat) (tz tn : Int) (ts : ByteArray) (r : List Lx.PTok) (w : World) (hSrc : Rd.Src w tb xs) (hSt : Rd.St w P tb C xs r 0 0) (hR : Rd.pq F ta 4 r ≠ .out) :
  Calls Try.prog 45 #[.pointer (some ⟨P, 0, none⟩), .agg #[.int .i64 4, .int .i64 (ta : Int), .int .i64 tz, .int .i64 tn, .string ts]] w (Rd.Out P tb C xs w (Rd.pq F ta 4 r)) := by
 obtain ⟨RR, hRR⟩ : ∃ RR, Rd.pq F ta 4 r = RR := ⟨_, rfl⟩
 rw [hRR] at hR ⊢
 obtain ⟨q, rfl⟩ : ∃ q, F = q + 1 := by
  cases F with
  | zero => rw [Rd.pq] at hRR; exact absurd hRR.symm hR
  | succ q => exact ⟨q, rfl⟩
 obtain ⟨w1, hw1⟩ : ∃ w1, w.alloc (.cells #[.int .i64 4, .int .i64 (ta : Int), .int .i64 tz, .int .i64 tn, .string ts] 47) = w1 := ⟨_, rfl⟩
 obtain ⟨w3, hw3⟩ : ∃ w3, w1.alloc (.cells #[.int .i64 0, .int .i64 0, .string ⟨#[]⟩, .slice none 0 0, .slice none 0 0, .slice none 0 0] 25) = w3 := ⟨_, rfl⟩
 obtain ⟨hb1, hs1⟩ := new_below hw1
 obtain ⟨hb3, hs3⟩ := new_below hw3
 have hT3 := (Hp.new hw1).below hb3
 have hR3 := Hp.new hw3
 have hb13 := hb1.trans (hb3.mono hb1.size)
 obtain ⟨T, hT⟩ : ∃ T, w.heap.size = T := ⟨_, rfl⟩
 obtain ⟨R, hRb⟩ : ∃ R, w1.heap.size = R := ⟨_, rfl⟩
 rw [hT] at hT3 hs1
 rw [hRb] at hR3 hs1 hs3
 have hPl := hSt.lt
 rw [hT] at hPl
 have HN : Hid (P < T ∧ R = T + 1 ∧ w3.heap.size = T + 2 ∧ w.heap.size = T) := ⟨hPl, hs1, by omega, hT⟩
 have hst3 := hSt.below hb13
 have HST3 := Lib.hid hst3
 have HSRC3 := Lib.hid (hSrc.below hb13)
 have HT3 := Lib.hid hT3
 have HR3 := Lib.hid hR3
 have HK3 : Hid (Keep (fun k => k = P) w w3) := keep_of_below hb13
 have HG := Lib.hid hG
 have HD := Lib.hid hD
 obtain ⟨pa, pre, hP, hpre, hpa⟩ := hst3
 have p0 := hP.cell 0 rfl
 clear hb1 hb3 hs1 hs3 hb13 hSt hSrc hG hD hPl
 cases r with
 | nil =>
  rw [Rd.pq] at hRR
  have HRR := Lib.hid hRR
  have hf := fail_any P tb C xs [] (ta : Int) 41 w3 HST3.out
  have y1 := hT3.cell 1 rfl
  rw [List.length_nil] at p0
  clear hT3 hR3 hP hpre hpa hRR hR
  go_enter Try.func45, Try.ntmps45
  go_wp2_with fail
  refine hf.mono ?_
  rintro e w4 ⟨rfl, hst4, hk4⟩
  unfold Rd.zeroD
  have hR4 := HR3.out.keep hk4 (by have := HN.out; omega)
  have HE := Lib.hid (Rd.Out.fin (r := RR) (x := .mk 0 0 ⟨#[]⟩ [] [] []) (HK3.out.trans hk4) (R := R) (by have := HN.out; omega) (by have := HN.out; omega) (Rd.rep_zero _ _) (.inl rfl) hst4 (.inr ⟨ta, 41, HRR.out.symm, rfl, rfl, by decide⟩))
  have r0 := hR4.cell 0 rfl
  have r1 := hR4.cell 1 rfl
  have r2 := hR4.cell 2 rfl
  have r3 := hR4.cell 3 rfl
  have r4 := hR4.cell 4 rfl
  have r5 := hR4.cell 5 rfl
  have k0 := hR4.frz 0
  have k1 := hR4.frz 1
  have k2 := hR4.frz 2
  have k3 := hR4.frz 3
  have k4 := hR4.frz 4
  have k5 := hR4.frz 5
  clear hf hst4 hk4 hR4 p0 y1 hw1 hw3
  go_wp2
  refine bodyPost_ret (v := .agg #[.int .i64 0, .int .i64 0, .string ⟨#[]⟩, .slice none 0 0, .slice none 0 0, .slice none 0 0]) (by simp [results, Try.results45, go_sem, *]) rfl ?_
  exact HE.out
 | cons x us =>
  rw [Rd.pq] at hRR
  have hdo : Rd.pd q (x :: us) ≠ .out := fun e => by rw [e] at hRR; exact hR hRR.symm
  obtain ⟨RES, hRES⟩ : ∃ RES, Rd.pd q (x :: us) = RES := ⟨_, rfl⟩
  have HCALL : Hid (∀ W, Below w3.heap.size w3 W → Calls Try.prog 28 #[.pointer (some ⟨P, 0, none⟩)] W (Rd.Out P tb C xs W RES)) := fun W hW => by
   rw [← hRES]
   exact HD.out q (by omega) (x :: us) W (by simp) (HSRC3.out.below hW) (HST3.out.below hW) hdo
  have hn0 : ((((x :: us).length : Nat) : Int) == 0) = false := by simp; omega
  rw [show (x :: us).length = us.length + 1 from rfl] at p0 hn0
  obtain ⟨n, hn⟩ : ∃ n, us.length = n := ⟨_, rfl⟩
  rw [hn] at p0 hn0
  have hn0' : (((n : Int) + 1) == 0) = false := by simp; omega
  have HBD : Hid (Below w3.heap.size w3 w3.drew) := (Below.refl _ w3).drew
  have HTS : Hid (w3.drew.cell? ⟨T, 0, none⟩ = some (.int .i64 4)) := hT3.cell 0 rfl
  have HTK : Hid (∀ W, Below w3.heap.size w3 W → W.cell? ⟨T, 0, none⟩ = some (.int .i64 4)) := fun W hW => (HT3.out.below hW).cell 0 rfl
  have HTK2 : Hid (∀ W, Keep (fun j => j = P) w3 W → W.cell? ⟨T, 0, none⟩ = some (.int .i64 4)) := fun W hW => (HT3.out.keep hW (by have := HN.out; omega)).cell 0 rfl
  have HINF : Hid ((Try.prog.info? 25).map (·.size) = some 6) := by show _ = _; kernel_rfl
  have HFIN : Hid (∀ (w5 w6 w7 : World) (y : Dt.D) (b1 b2 b3 : Option Addr) (m1 m2 m3 p1 p2 p3 : Nat) (a7 : Option Addr) (c7 : Nat) (rest : List Lx.PTok) (a2 e2 : Int), Keep (fun j => j = P) w3 w5 → Dt.Rep (fun j => w3.heap.size ≤ j) w5 y (.slice b1 m1 p1) (.slice b2 m2 p2) (.slice b3 m3 p3) → Rd.St w5 P tb C xs rest a2 e2 → Rd.Says RES y rest a2 e2 → Below w5.heap.size w5 w6 → w7.ownsRow w6.heap.size 25 6 (.slice a7 2 c7) 2 (Dt.flatP [Dt.P.mk (Rd.symD (Rd.sgn 4)) (.slice none 0 0) (.slice none 0 0) (.slice none 0 0), Dt.P.mk y (.slice b1 m1 p1) (.slice b2 m2 p2) (.slice b3 m3 p3)]) → Below w6.heap.size w6 w7 →
    w7.cell? ⟨T, 0, none⟩ = some (.int .i64 4) ∧ w7.there R 0 6 ∧ ((set6 w7 R (.int .i64 6) (.int .i64 0) (.string ⟨#[]⟩) (.slice none 0 0) (.slice a7 2 c7) (.slice none 0 0)).cell? ⟨T, 0, none⟩ = some (.int .i64 4) ∧ Hp (set6 w7 R (.int .i64 6) (.int .i64 0) (.string ⟨#[]⟩) (.slice none 0 0) (.slice a7 2 c7) (.slice none 0 0)) R #[.int .i64 6, .int .i64 0, .string ⟨#[]⟩, .slice none 0 0, .slice a7 2 c7, .slice none 0 0] 25) ∧
    Rd.Out P tb C xs w RR (.returned (.agg #[.int .i64 6, .int .i64 0, .string ⟨#[]⟩, .slice none 0 0, .slice a7 2 c7, .slice none 0 0])) (set6 w7 R (.int .i64 6) (.int .i64 0) (.string ⟨#[]⟩) (.slice none 0 0) (.slice a7 2 c7) (.slice none 0 0))) := by
   intro w5 w6 w7 y b1 b2 b3 m1 m2 m3 p1 p2 p3 a7 c7 rest a2 e2 hk5 hr5 hst5 hsay hb6 hown7 hb7
   have hN := HN.out
   have hb57 := hb6.trans (hb7.mono hb6.size)
   have hk7 := hk5.trans (keep_of_below hb57)
   have hT7 := HT3.out.keep hk7 (by omega)
   have hR7 := HR3.out.keep hk7 (by omega)
   have hks := set6_keep w7 R (.int .i64 6) (.int .i64 0) (.string ⟨#[]⟩) (.slice none 0 0) (.slice a7 2 c7) (.slice none 0 0)
   have hrow := Rd.row_of_own (F := fun j => T + 2 ≤ j) hown7 rfl (fun j e => by have := (Dt.own_lt hown7 j e).1; have := hb6.size; have := hk5.size; omega) (fun p hp => by
    simp only [List.mem_cons, List.not_mem_nil, or_false] at hp
    rcases hp with rfl | rfl
    ·exact Rd.rep_sym _ _ _
    ·exact Dt.Rep.mono (fun j hj _ => by omega) y (Dt.Rep.below hb57 hr5))
   refine ⟨hT7.cell 0 rfl, hR7.there (Nat.le_refl _), ⟨(hT7.keep hks (by omega)).cell 0 rfl, hR7.set6 _ _ _ _ _ _⟩, ?_⟩
   refine Rd.Out.fin (r := RR) (x := Rd.quoteD 4 y) (HK3.out.trans hk7) (R := R) (by omega) (by omega) (Dt.Rep.mono (fun j hj _ => by omega) _ (Rd.rep_row 6 hrow)) (Rd.own_nz hown7) (hst5.below hb57) ?_
   rcases hsay with ⟨e, h1, h2⟩ | ⟨b, c, e, h1, h2, h3⟩
   ·rw [hRES, e] at hRR
    exact .inl ⟨hRR.symm, h1, h2⟩
   ·rw [hRES, e] at hRR
    exact .inr ⟨b, c, hRR.symm, h1, h2, h3⟩
  have hidx : ∀ w, (Instr.index 91 (.agg #[.string ⟨#[113, 117, 111, 116, 101]⟩, .string ⟨#[113, 117, 97, 115, 105, 113, 117, 111, 116, 101]⟩, .string ⟨#[117, 110, 113, 117, 111, 116, 101]⟩, .string ⟨#[117, 110, 113, 117, 111, 116, 101, 45, 115, 112, 108, 105, 99, 105, 110, 103]⟩]) (.int .i64 0)).run Try.prog w = .ok (.string ⟨#[113, 117, 111, 116, 101]⟩) w := fun _ => by kernel_rfl
  have hwr : IntKind.i64.wrap 0 = 0 := by decide
  clear hT3 hR3 hP hpre hpa hRR hR hdo hn hn0 hRES
  go_enter Try.func45, Try.ntmps45
  go_upto_region 3 with fail
  clear p0 hw1 hw3
  refine wp_region_noPanic ?_
  refine wp_region_held_drew (S := fun W => W.cell? ⟨T, 0, none⟩ = some (.int .i64 4)) (by kernel_rfl) HTS.out (fun hHeld => ?_)
  refine wpAnyH_take (i := 1) (oi := ⟨_, _, _, _, _, _⟩) (v := ?_) rfl (by kernel_rfl) (by kernel_rfl) (by kernel_rfl) (fun _ _ _ h => h) (Or.inl ⟨by rfl, ?_⟩) (by assumption) ?_
  rotate_left
  ·intro w hSw
   clear hSw
   go_simp
   try with_reducible rfl
  simp only [Act.put, List.setIfInBounds_toArray, List.set_cons_zero, List.set_cons_succ]
  refine wpAnyH_take (i := 6) (oi := ⟨_, _, _, _, _, _⟩) (v := ?_) rfl (by kernel_rfl) (by kernel_rfl) (by kernel_rfl) (fun _ _ _ h => h) (Or.inl ⟨by rfl, ?_⟩) (by assumption) ?_
  rotate_left
  ·intro w hSw
   clear hSw
   go_simp
   try with_reducible rfl
  simp only [Act.put, List.setIfInBounds_toArray, List.set_cons_zero, List.set_cons_succ]
  refine wpAnyH_take (i := 2) (oi := ⟨_, _, _, _, _, _⟩) (v := .int .i64 4) rfl (by kernel_rfl) (by kernel_rfl) (by kernel_rfl) (fun _ _ _ h => h) (Or.inl ⟨by rfl, ?_⟩) (by assumption) ?_
  ·intro w hSw
   have s0 := hSw
   go_simp
   try with_reducible rfl
  simp only [Act.put, List.setIfInBounds_toArray, List.set_cons_zero, List.set_cons_succ]
  refine wpAnyH_take (i := 3) (oi := ⟨_, _, _, _, _, _⟩) (v := .int .i64 0) rfl (by kernel_rfl) (by kernel_rfl) (by kernel_rfl) (fun _ _ _ h => h) (Or.inl ⟨by rfl, ?_⟩) (by assumption) ?_
  ·intro w hSw
   clear hSw
   go_simp
   try with_reducible rfl
  simp only [Act.put, List.setIfInBounds_toArray, List.set_cons_zero, List.set_cons_succ]
  refine wpAnyH_ready (rs := [0]) (by kernel_rfl) (by simp) ?_
  refine AllReadyH.cons (o := ⟨_, _, _, _, _, _⟩) rfl (fun K hK => ?_) AllReadyH.nil
  go_simp
  refine (signs_any _).mono ?_
  rintro e w4 ⟨rfl, hb4⟩
  have HB4 : Hid (Below w3.heap.size w3 w4) := HBD.out.trans hb4
  clear hb4
  dsimp only
  refine hK.out _ _ ?_ (fun hHeld => ?_)
  ·exact HTK.out _ HB4.out
  clear hK K
  try simp only [Act.put, List.setIfInBounds_toArray, List.set_cons_zero, List.set_cons_succ]
  refine wpAnyH_take (i := 4) (oi := ⟨_, _, _, _, _, _⟩) (v := .string ⟨#[113, 117, 111, 116, 101]⟩) rfl (by kernel_rfl) (by kernel_rfl) (by kernel_rfl) (fun _ _ _ h => h) (Or.inl ⟨by rfl, ?_⟩) (by assumption) ?_
  ·intro w hSw
   clear hSw
   have i0 := hidx w
   go_simp
   try with_reducible rfl
  simp only [Act.put, List.setIfInBounds_toArray, List.set_cons_zero, List.set_cons_succ]
  refine wpAnyH_take (i := 5) (oi := ⟨_, _, _, _, _, _⟩) (v := ?_) rfl (by kernel_rfl) (by kernel_rfl) (by kernel_rfl) (fun _ _ _ h => h) (Or.inl ⟨by rfl, ?_⟩) (by assumption) ?_
  rotate_left
  ·intro w hSw
   clear hSw
   go_simp
   try with_reducible rfl
  simp only [Act.put, List.setIfInBounds_toArray, List.set_cons_zero, List.set_cons_succ]
  refine wpAnyH_ready (rs := [7]) (by kernel_rfl) (by simp) ?_
  refine AllReadyH.cons (o := ⟨_, _, _, _, _, _⟩) rfl (fun K hK => ?_) AllReadyH.nil
  go_simp
  refine (HCALL.out _ HB4.out).mono ?_
  rintro e w5 ⟨y, vm, vl, vt, rest, a2, e2, rfl, hr5, -, hst5, hk5, hsay⟩
  obtain ⟨b1, m1, p1, b2, m2, p2, b3, m3, p3, rfl, rfl, rfl⟩ := hr5.forms
  have HK5 : Hid (Keep (fun j => j = P) w3 w5) := (keep_of_below HB4.out).trans hk5
  have HR5 : Hid (Dt.Rep (fun j => w3.heap.size ≤ j) w5 y (.slice b1 m1 p1) (.slice b2 m2 p2) (.slice b3 m3 p3)) := Dt.Rep.mono (fun j hj _ => Nat.le_trans HB4.out.size hj) y hr5
  have HST5 := Lib.hid hst5
  have HSAY := Lib.hid hsay
  clear hr5 hst5 hk5 hsay
  dsimp only
  refine hK.out _ _ ?_ (fun hHeld => ?_)
  ·exact HTK2.out _ HK5.out
  clear hK K
  try simp only [Act.put, List.setIfInBounds_toArray, List.set_cons_zero, List.set_cons_succ]
  refine wpAnyH_ready (rs := [8]) (by kernel_rfl) (by simp) ?_
  refine AllReadyH.cons (o := ⟨_, _, _, _, _, _⟩) rfl (fun K hK => ?_) AllReadyH.nil
  go_simp
  obtain ⟨w6, hw6⟩ : ∃ w6, w5.alloc (.cells #[.int .i64 5, .int .i64 0, .string ⟨#[113, 117, 111, 116, 101]⟩, .slice none 0 0, .slice none 0 0, .slice none 0 0, .int .i64 y.k, .int .i64 y.n, .string y.s, .slice b1 m1 p1, .slice b2 m2 p2, .slice b3 m3 p3] 25) = w6 := ⟨_, rfl⟩
  rw [hw6]
  have HB6 := Lib.hid (new_below hw6)
  have HP6 := Lib.hid (Hp.new hw6)
  clear hw6
  refine hK.out _ _ ?_ (fun hHeld => ?_)
  ·exact HTK2.out _ (HK5.out.trans (keep_of_below HB6.out.1))
  clear hK K
  try simp only [Act.put, List.setIfInBounds_toArray, List.set_cons_zero, List.set_cons_succ]
  refine wpAnyH_ready (rs := [9]) (by kernel_rfl) (by simp) ?_
  refine AllReadyH.cons (o := ⟨_, _, _, _, _, _⟩) rfl (fun K hK => ?_) AllReadyH.nil
  go_simp
  refine (dataList_any w5.heap.size 2 2 [Dt.P.mk (Rd.symD (Rd.sgn 4)) (.slice none 0 0) (.slice none 0 0) (.slice none 0 0), Dt.P.mk y (.slice b1 m1 p1) (.slice b2 m2 p2) (.slice b3 m3 p3)] _ (Rd.two_src (y := y) HP6.out) rfl (by decide) (Rd.flatP_one _ (fun p hp => Rd.two_forms hp))).mono ?_
  rintro e w7 ⟨a7, c7, rfl, hown7, hb7⟩
  obtain ⟨g1, g2, g3, g4⟩ := HFIN.out w5 w6 w7 y b1 b2 b3 m1 m2 m3 p1 p2 p3 a7 c7 rest a2 e2 HK5.out HR5.out HST5.out HSAY.out HB6.out.1 hown7 hb7
  obtain ⟨w9, hw9⟩ : ∃ w9, set6 w7 R (.int .i64 6) (.int .i64 0) (.string ⟨#[]⟩) (.slice none 0 0) (.slice a7 2 c7) (.slice none 0 0) = w9 := ⟨_, rfl⟩
  rw [hw9] at g3 g4
  have HTH := Lib.hid g2
  have HG1 := Lib.hid g1
  have HG3 : Hid (w9.cell? ⟨T, 0, none⟩ = some (.int .i64 4)) := g3.1
  have HE := Lib.hid g4
  have HW9 := Lib.hid hw9
  have e0 := g3.2.cell 0 rfl
  have e1 := g3.2.cell 1 rfl
  have e2' := g3.2.cell 2 rfl
  have e3 := g3.2.cell 3 rfl
  have e4 := g3.2.cell 4 rfl
  have e5 := g3.2.cell 5 rfl
  clear hown7 hb7 g1 g2 g3 g4 hw9
  dsimp only
  refine hK.out _ _ ?_ (fun hHeld => ?_)
  ·exact HG1.out
  clear hK K
  try simp only [Act.put, List.setIfInBounds_toArray, List.set_cons_zero, List.set_cons_succ]
  refine wpAnyH_ready (rs := [10]) (by kernel_rfl) (by simp) ?_
  refine AllReadyH.cons (o := ⟨_, _, _, _, _, _⟩) rfl (fun K hK => ?_) AllReadyH.nil
  refine wp_store_mid _ _ _ rfl R 0 #[.int .i64 6, .int .i64 0, .string ⟨#[]⟩, .slice none 0 0, .slice a7 2 c7, .slice none 0 0] rfl rfl HTH.out HINF.out (by simp [Value.oneCell']) ?_
  rw [setCells6, HW9.out]
  refine hK.out _ _ ?_ (fun hHeld => ?_)
  ·exact HG3.out
  clear hK K
  try simp only [Act.put]
  refine wpAnyH_done (by kernel_rfl) ?_ _
  refine NoPanic.normal ?_
  go_wp2
  refine bodyPost_ret (v := .agg #[.int .i64 6, .int .i64 0, .string ⟨#[]⟩, .slice none 0 0, .slice a7 2 c7, .slice none 0 0]) (by simp [results, Try.results45, go_sem, *]) rfl ?_
  exact HE.out
set_option maxRecDepth 100000 in
set_option maxHeartbeats 16000000 in
theorem quote_5 (P tb C : Nat) (xs : List Lx.PTok) (hG : Rd.G P tb C xs) (F : Nat) (hD : ∀ g, g < F → Rd.DatumIs P tb C xs g) (ta : Nat) (tz tn : Int) (ts : ByteArray) (r : List Lx.PTok) (w : World) (hSrc : Rd.Src w tb xs) (hSt : Rd.St w P tb C xs r 0 0) (hR : Rd.pq F ta 5 r ≠ .out) :
  Calls Try.prog 45 #[.pointer (some ⟨P, 0, none⟩), .agg #[.int .i64 5, .int .i64 (ta : Int), .int .i64 tz, .int .i64 tn, .string ts]] w (Rd.Out P tb C xs w (Rd.pq F ta 5 r)) := by
 obtain ⟨RR, hRR⟩ : ∃ RR, Rd.pq F ta 5 r = RR := ⟨_, rfl⟩
 rw [hRR] at hR ⊢
 obtain ⟨q, rfl⟩ : ∃ q, F = q + 1 := by
  cases F with
  | zero => rw [Rd.pq] at hRR; exact absurd hRR.symm hR
  | succ q => exact ⟨q, rfl⟩
 obtain ⟨w1, hw1⟩ : ∃ w1, w.alloc (.cells #[.int .i64 5, .int .i64 (ta : Int), .int .i64 tz, .int .i64 tn, .string ts] 47) = w1 := ⟨_, rfl⟩
 obtain ⟨w3, hw3⟩ : ∃ w3, w1.alloc (.cells #[.int .i64 0, .int .i64 0, .string ⟨#[]⟩, .slice none 0 0, .slice none 0 0, .slice none 0 0] 25) = w3 := ⟨_, rfl⟩
 obtain ⟨hb1, hs1⟩ := new_below hw1
 obtain ⟨hb3, hs3⟩ := new_below hw3
 have hT3 := (Hp.new hw1).below hb3
 have hR3 := Hp.new hw3
 have hb13 := hb1.trans (hb3.mono hb1.size)
 obtain ⟨T, hT⟩ : ∃ T, w.heap.size = T := ⟨_, rfl⟩
 obtain ⟨R, hRb⟩ : ∃ R, w1.heap.size = R := ⟨_, rfl⟩
 rw [hT] at hT3 hs1
 rw [hRb] at hR3 hs1 hs3
 have hPl := hSt.lt
 rw [hT] at hPl
 have HN : Hid (P < T ∧ R = T + 1 ∧ w3.heap.size = T + 2 ∧ w.heap.size = T) := ⟨hPl, hs1, by omega, hT⟩
 have hst3 := hSt.below hb13
 have HST3 := Lib.hid hst3
 have HSRC3 := Lib.hid (hSrc.below hb13)
 have HT3 := Lib.hid hT3
 have HR3 := Lib.hid hR3
 have HK3 : Hid (Keep (fun k => k = P) w w3) := keep_of_below hb13
 have HG := Lib.hid hG
 have HD := Lib.hid hD
 obtain ⟨pa, pre, hP, hpre, hpa⟩ := hst3
 have p0 := hP.cell 0 rfl
 clear hb1 hb3 hs1 hs3 hb13 hSt hSrc hG hD hPl
 cases r with
 | nil =>
  rw [Rd.pq] at hRR
  have HRR := Lib.hid hRR
  have hf := fail_any P tb C xs [] (ta : Int) 41 w3 HST3.out
  have y1 := hT3.cell 1 rfl
  rw [List.length_nil] at p0
  clear hT3 hR3 hP hpre hpa hRR hR
  go_enter Try.func45, Try.ntmps45
  go_wp2_with fail
  refine hf.mono ?_
  rintro e w4 ⟨rfl, hst4, hk4⟩
  unfold Rd.zeroD
  have hR4 := HR3.out.keep hk4 (by have := HN.out; omega)
  have HE := Lib.hid (Rd.Out.fin (r := RR) (x := .mk 0 0 ⟨#[]⟩ [] [] []) (HK3.out.trans hk4) (R := R) (by have := HN.out; omega) (by have := HN.out; omega) (Rd.rep_zero _ _) (.inl rfl) hst4 (.inr ⟨ta, 41, HRR.out.symm, rfl, rfl, by decide⟩))
  have r0 := hR4.cell 0 rfl
  have r1 := hR4.cell 1 rfl
  have r2 := hR4.cell 2 rfl
  have r3 := hR4.cell 3 rfl
  have r4 := hR4.cell 4 rfl
  have r5 := hR4.cell 5 rfl
  have k0 := hR4.frz 0
  have k1 := hR4.frz 1
  have k2 := hR4.frz 2
  have k3 := hR4.frz 3
  have k4 := hR4.frz 4
  have k5 := hR4.frz 5
  clear hf hst4 hk4 hR4 p0 y1 hw1 hw3
  go_wp2
  refine bodyPost_ret (v := .agg #[.int .i64 0, .int .i64 0, .string ⟨#[]⟩, .slice none 0 0, .slice none 0 0, .slice none 0 0]) (by simp [results, Try.results45, go_sem, *]) rfl ?_
  exact HE.out
 | cons x us =>
  rw [Rd.pq] at hRR
  have hdo : Rd.pd q (x :: us) ≠ .out := fun e => by rw [e] at hRR; exact hR hRR.symm
  obtain ⟨RES, hRES⟩ : ∃ RES, Rd.pd q (x :: us) = RES := ⟨_, rfl⟩
  have HCALL : Hid (∀ W, Below w3.heap.size w3 W → Calls Try.prog 28 #[.pointer (some ⟨P, 0, none⟩)] W (Rd.Out P tb C xs W RES)) := fun W hW => by
   rw [← hRES]
   exact HD.out q (by omega) (x :: us) W (by simp) (HSRC3.out.below hW) (HST3.out.below hW) hdo
  have hn0 : ((((x :: us).length : Nat) : Int) == 0) = false := by simp; omega
  rw [show (x :: us).length = us.length + 1 from rfl] at p0 hn0
  obtain ⟨n, hn⟩ : ∃ n, us.length = n := ⟨_, rfl⟩
  rw [hn] at p0 hn0
  have hn0' : (((n : Int) + 1) == 0) = false := by simp; omega
  have HBD : Hid (Below w3.heap.size w3 w3.drew) := (Below.refl _ w3).drew
  have HTS : Hid (w3.drew.cell? ⟨T, 0, none⟩ = some (.int .i64 5)) := hT3.cell 0 rfl
  have HTK : Hid (∀ W, Below w3.heap.size w3 W → W.cell? ⟨T, 0, none⟩ = some (.int .i64 5)) := fun W hW => (HT3.out.below hW).cell 0 rfl
  have HTK2 : Hid (∀ W, Keep (fun j => j = P) w3 W → W.cell? ⟨T, 0, none⟩ = some (.int .i64 5)) := fun W hW => (HT3.out.keep hW (by have := HN.out; omega)).cell 0 rfl
  have HINF : Hid ((Try.prog.info? 25).map (·.size) = some 6) := by show _ = _; kernel_rfl
  have HFIN : Hid (∀ (w5 w6 w7 : World) (y : Dt.D) (b1 b2 b3 : Option Addr) (m1 m2 m3 p1 p2 p3 : Nat) (a7 : Option Addr) (c7 : Nat) (rest : List Lx.PTok) (a2 e2 : Int), Keep (fun j => j = P) w3 w5 → Dt.Rep (fun j => w3.heap.size ≤ j) w5 y (.slice b1 m1 p1) (.slice b2 m2 p2) (.slice b3 m3 p3) → Rd.St w5 P tb C xs rest a2 e2 → Rd.Says RES y rest a2 e2 → Below w5.heap.size w5 w6 → w7.ownsRow w6.heap.size 25 6 (.slice a7 2 c7) 2 (Dt.flatP [Dt.P.mk (Rd.symD (Rd.sgn 5)) (.slice none 0 0) (.slice none 0 0) (.slice none 0 0), Dt.P.mk y (.slice b1 m1 p1) (.slice b2 m2 p2) (.slice b3 m3 p3)]) → Below w6.heap.size w6 w7 →
    w7.cell? ⟨T, 0, none⟩ = some (.int .i64 5) ∧ w7.there R 0 6 ∧ ((set6 w7 R (.int .i64 6) (.int .i64 0) (.string ⟨#[]⟩) (.slice none 0 0) (.slice a7 2 c7) (.slice none 0 0)).cell? ⟨T, 0, none⟩ = some (.int .i64 5) ∧ Hp (set6 w7 R (.int .i64 6) (.int .i64 0) (.string ⟨#[]⟩) (.slice none 0 0) (.slice a7 2 c7) (.slice none 0 0)) R #[.int .i64 6, .int .i64 0, .string ⟨#[]⟩, .slice none 0 0, .slice a7 2 c7, .slice none 0 0] 25) ∧
    Rd.Out P tb C xs w RR (.returned (.agg #[.int .i64 6, .int .i64 0, .string ⟨#[]⟩, .slice none 0 0, .slice a7 2 c7, .slice none 0 0])) (set6 w7 R (.int .i64 6) (.int .i64 0) (.string ⟨#[]⟩) (.slice none 0 0) (.slice a7 2 c7) (.slice none 0 0))) := by
   intro w5 w6 w7 y b1 b2 b3 m1 m2 m3 p1 p2 p3 a7 c7 rest a2 e2 hk5 hr5 hst5 hsay hb6 hown7 hb7
   have hN := HN.out
   have hb57 := hb6.trans (hb7.mono hb6.size)
   have hk7 := hk5.trans (keep_of_below hb57)
   have hT7 := HT3.out.keep hk7 (by omega)
   have hR7 := HR3.out.keep hk7 (by omega)
   have hks := set6_keep w7 R (.int .i64 6) (.int .i64 0) (.string ⟨#[]⟩) (.slice none 0 0) (.slice a7 2 c7) (.slice none 0 0)
   have hrow := Rd.row_of_own (F := fun j => T + 2 ≤ j) hown7 rfl (fun j e => by have := (Dt.own_lt hown7 j e).1; have := hb6.size; have := hk5.size; omega) (fun p hp => by
    simp only [List.mem_cons, List.not_mem_nil, or_false] at hp
    rcases hp with rfl | rfl
    ·exact Rd.rep_sym _ _ _
    ·exact Dt.Rep.mono (fun j hj _ => by omega) y (Dt.Rep.below hb57 hr5))
   refine ⟨hT7.cell 0 rfl, hR7.there (Nat.le_refl _), ⟨(hT7.keep hks (by omega)).cell 0 rfl, hR7.set6 _ _ _ _ _ _⟩, ?_⟩
   refine Rd.Out.fin (r := RR) (x := Rd.quoteD 5 y) (HK3.out.trans hk7) (R := R) (by omega) (by omega) (Dt.Rep.mono (fun j hj _ => by omega) _ (Rd.rep_row 6 hrow)) (Rd.own_nz hown7) (hst5.below hb57) ?_
   rcases hsay with ⟨e, h1, h2⟩ | ⟨b, c, e, h1, h2, h3⟩
   ·rw [hRES, e] at hRR
    exact .inl ⟨hRR.symm, h1, h2⟩
   ·rw [hRES, e] at hRR
    exact .inr ⟨b, c, hRR.symm, h1, h2, h3⟩
  have hidx : ∀ w, (Instr.index 91 (.agg #[.string ⟨#[113, 117, 111, 116, 101]⟩, .string ⟨#[113, 117, 97, 115, 105, 113, 117, 111, 116, 101]⟩, .string ⟨#[117, 110, 113, 117, 111, 116, 101]⟩, .string ⟨#[117, 110, 113, 117, 111, 116, 101, 45, 115, 112, 108, 105, 99, 105, 110, 103]⟩]) (.int .i64 1)).run Try.prog w = .ok (.string ⟨#[113, 117, 97, 115, 105, 113, 117, 111, 116, 101]⟩) w := fun _ => by kernel_rfl
  have hwr : IntKind.i64.wrap 1 = 1 := by decide
  clear hT3 hR3 hP hpre hpa hRR hR hdo hn hn0 hRES
  go_enter Try.func45, Try.ntmps45
  go_upto_region 3 with fail
  clear p0 hw1 hw3
  refine wp_region_noPanic ?_
  refine wp_region_held_drew (S := fun W => W.cell? ⟨T, 0, none⟩ = some (.int .i64 5)) (by kernel_rfl) HTS.out (fun hHeld => ?_)
  refine wpAnyH_take (i := 1) (oi := ⟨_, _, _, _, _, _⟩) (v := ?_) rfl (by kernel_rfl) (by kernel_rfl) (by kernel_rfl) (fun _ _ _ h => h) (Or.inl ⟨by rfl, ?_⟩) (by assumption) ?_
  rotate_left
  ·intro w hSw
   clear hSw
   go_simp
   try with_reducible rfl
  simp only [Act.put, List.setIfInBounds_toArray, List.set_cons_zero, List.set_cons_succ]
  refine wpAnyH_take (i := 6) (oi := ⟨_, _, _, _, _, _⟩) (v := ?_) rfl (by kernel_rfl) (by kernel_rfl) (by kernel_rfl) (fun _ _ _ h => h) (Or.inl ⟨by rfl, ?_⟩) (by assumption) ?_
  rotate_left
  ·intro w hSw
   clear hSw
   go_simp
   try with_reducible rfl
  simp only [Act.put, List.setIfInBounds_toArray, List.set_cons_zero, List.set_cons_succ]
  refine wpAnyH_take (i := 2) (oi := ⟨_, _, _, _, _, _⟩) (v := .int .i64 5) rfl (by kernel_rfl) (by kernel_rfl) (by kernel_rfl) (fun _ _ _ h => h) (Or.inl ⟨by rfl, ?_⟩) (by assumption) ?_
  ·intro w hSw
   have s0 := hSw
   go_simp
   try with_reducible rfl
  simp only [Act.put, List.setIfInBounds_toArray, List.set_cons_zero, List.set_cons_succ]
  refine wpAnyH_take (i := 3) (oi := ⟨_, _, _, _, _, _⟩) (v := .int .i64 1) rfl (by kernel_rfl) (by kernel_rfl) (by kernel_rfl) (fun _ _ _ h => h) (Or.inl ⟨by rfl, ?_⟩) (by assumption) ?_
  ·intro w hSw
   clear hSw
   go_simp
   try with_reducible rfl
  simp only [Act.put, List.setIfInBounds_toArray, List.set_cons_zero, List.set_cons_succ]
  refine wpAnyH_ready (rs := [0]) (by kernel_rfl) (by simp) ?_
  refine AllReadyH.cons (o := ⟨_, _, _, _, _, _⟩) rfl (fun K hK => ?_) AllReadyH.nil
  go_simp
  refine (signs_any _).mono ?_
  rintro e w4 ⟨rfl, hb4⟩
  have HB4 : Hid (Below w3.heap.size w3 w4) := HBD.out.trans hb4
  clear hb4
  dsimp only
  refine hK.out _ _ ?_ (fun hHeld => ?_)
  ·exact HTK.out _ HB4.out
  clear hK K
  try simp only [Act.put, List.setIfInBounds_toArray, List.set_cons_zero, List.set_cons_succ]
  refine wpAnyH_take (i := 4) (oi := ⟨_, _, _, _, _, _⟩) (v := .string ⟨#[113, 117, 97, 115, 105, 113, 117, 111, 116, 101]⟩) rfl (by kernel_rfl) (by kernel_rfl) (by kernel_rfl) (fun _ _ _ h => h) (Or.inl ⟨by rfl, ?_⟩) (by assumption) ?_
  ·intro w hSw
   clear hSw
   have i0 := hidx w
   go_simp
   try with_reducible rfl
  simp only [Act.put, List.setIfInBounds_toArray, List.set_cons_zero, List.set_cons_succ]
  refine wpAnyH_take (i := 5) (oi := ⟨_, _, _, _, _, _⟩) (v := ?_) rfl (by kernel_rfl) (by kernel_rfl) (by kernel_rfl) (fun _ _ _ h => h) (Or.inl ⟨by rfl, ?_⟩) (by assumption) ?_
  rotate_left
  ·intro w hSw
   clear hSw
   go_simp
   try with_reducible rfl
  simp only [Act.put, List.setIfInBounds_toArray, List.set_cons_zero, List.set_cons_succ]
  refine wpAnyH_ready (rs := [7]) (by kernel_rfl) (by simp) ?_
  refine AllReadyH.cons (o := ⟨_, _, _, _, _, _⟩) rfl (fun K hK => ?_) AllReadyH.nil
  go_simp
  refine (HCALL.out _ HB4.out).mono ?_
  rintro e w5 ⟨y, vm, vl, vt, rest, a2, e2, rfl, hr5, -, hst5, hk5, hsay⟩
  obtain ⟨b1, m1, p1, b2, m2, p2, b3, m3, p3, rfl, rfl, rfl⟩ := hr5.forms
  have HK5 : Hid (Keep (fun j => j = P) w3 w5) := (keep_of_below HB4.out).trans hk5
  have HR5 : Hid (Dt.Rep (fun j => w3.heap.size ≤ j) w5 y (.slice b1 m1 p1) (.slice b2 m2 p2) (.slice b3 m3 p3)) := Dt.Rep.mono (fun j hj _ => Nat.le_trans HB4.out.size hj) y hr5
  have HST5 := Lib.hid hst5
  have HSAY := Lib.hid hsay
  clear hr5 hst5 hk5 hsay
  dsimp only
  refine hK.out _ _ ?_ (fun hHeld => ?_)
  ·exact HTK2.out _ HK5.out
  clear hK K
  try simp only [Act.put, List.setIfInBounds_toArray, List.set_cons_zero, List.set_cons_succ]
  refine wpAnyH_ready (rs := [8]) (by kernel_rfl) (by simp) ?_
  refine AllReadyH.cons (o := ⟨_, _, _, _, _, _⟩) rfl (fun K hK => ?_) AllReadyH.nil
  go_simp
  obtain ⟨w6, hw6⟩ : ∃ w6, w5.alloc (.cells #[.int .i64 5, .int .i64 0, .string ⟨#[113, 117, 97, 115, 105, 113, 117, 111, 116, 101]⟩, .slice none 0 0, .slice none 0 0, .slice none 0 0, .int .i64 y.k, .int .i64 y.n, .string y.s, .slice b1 m1 p1, .slice b2 m2 p2, .slice b3 m3 p3] 25) = w6 := ⟨_, rfl⟩
  rw [hw6]
  have HB6 := Lib.hid (new_below hw6)
  have HP6 := Lib.hid (Hp.new hw6)
  clear hw6
  refine hK.out _ _ ?_ (fun hHeld => ?_)
  ·exact HTK2.out _ (HK5.out.trans (keep_of_below HB6.out.1))
  clear hK K
  try simp only [Act.put, List.setIfInBounds_toArray, List.set_cons_zero, List.set_cons_succ]
  refine wpAnyH_ready (rs := [9]) (by kernel_rfl) (by simp) ?_
  refine AllReadyH.cons (o := ⟨_, _, _, _, _, _⟩) rfl (fun K hK => ?_) AllReadyH.nil
  go_simp
  refine (dataList_any w5.heap.size 2 2 [Dt.P.mk (Rd.symD (Rd.sgn 5)) (.slice none 0 0) (.slice none 0 0) (.slice none 0 0), Dt.P.mk y (.slice b1 m1 p1) (.slice b2 m2 p2) (.slice b3 m3 p3)] _ (Rd.two_src (y := y) HP6.out) rfl (by decide) (Rd.flatP_one _ (fun p hp => Rd.two_forms hp))).mono ?_
  rintro e w7 ⟨a7, c7, rfl, hown7, hb7⟩
  obtain ⟨g1, g2, g3, g4⟩ := HFIN.out w5 w6 w7 y b1 b2 b3 m1 m2 m3 p1 p2 p3 a7 c7 rest a2 e2 HK5.out HR5.out HST5.out HSAY.out HB6.out.1 hown7 hb7
  obtain ⟨w9, hw9⟩ : ∃ w9, set6 w7 R (.int .i64 6) (.int .i64 0) (.string ⟨#[]⟩) (.slice none 0 0) (.slice a7 2 c7) (.slice none 0 0) = w9 := ⟨_, rfl⟩
  rw [hw9] at g3 g4
  have HTH := Lib.hid g2
  have HG1 := Lib.hid g1
  have HG3 : Hid (w9.cell? ⟨T, 0, none⟩ = some (.int .i64 5)) := g3.1
  have HE := Lib.hid g4
  have HW9 := Lib.hid hw9
  have e0 := g3.2.cell 0 rfl
  have e1 := g3.2.cell 1 rfl
  have e2' := g3.2.cell 2 rfl
  have e3 := g3.2.cell 3 rfl
  have e4 := g3.2.cell 4 rfl
  have e5 := g3.2.cell 5 rfl
  clear hown7 hb7 g1 g2 g3 g4 hw9
  dsimp only
  refine hK.out _ _ ?_ (fun hHeld => ?_)
  ·exact HG1.out
  clear hK K
  try simp only [Act.put, List.setIfInBounds_toArray, List.set_cons_zero, List.set_cons_succ]
  refine wpAnyH_ready (rs := [10]) (by kernel_rfl) (by simp) ?_
  refine AllReadyH.cons (o := ⟨_, _, _, _, _, _⟩) rfl (fun K hK => ?_) AllReadyH.nil
  refine wp_store_mid _ _ _ rfl R 0 #[.int .i64 6, .int .i64 0, .string ⟨#[]⟩, .slice none 0 0, .slice a7 2 c7, .slice none 0 0] rfl rfl HTH.out HINF.out (by simp [Value.oneCell']) ?_
  rw [setCells6, HW9.out]
  refine hK.out _ _ ?_ (fun hHeld => ?_)
  ·exact HG3.out
  clear hK K
  try simp only [Act.put]
  refine wpAnyH_done (by kernel_rfl) ?_ _
  refine NoPanic.normal ?_
  go_wp2
  refine bodyPost_ret (v := .agg #[.int .i64 6, .int .i64 0, .string ⟨#[]⟩, .slice none 0 0, .slice a7 2 c7, .slice none 0 0]) (by simp [results, Try.results45, go_sem, *]) rfl ?_
  exact HE.out
set_option maxRecDepth 100000 in
set_option maxHeartbeats 16000000 in
theorem quote_6 (P tb C : Nat) (xs : List Lx.PTok) (hG : Rd.G P tb C xs) (F : Nat) (hD : ∀ g, g < F → Rd.DatumIs P tb C xs g) (ta : Nat) (tz tn : Int) (ts : ByteArray) (r : List Lx.PTok) (w : World) (hSrc : Rd.Src w tb xs) (hSt : Rd.St w P tb C xs r 0 0) (hR : Rd.pq F ta 6 r ≠ .out) :
  Calls Try.prog 45 #[.pointer (some ⟨P, 0, none⟩), .agg #[.int .i64 6, .int .i64 (ta : Int), .int .i64 tz, .int .i64 tn, .string ts]] w (Rd.Out P tb C xs w (Rd.pq F ta 6 r)) := by
 obtain ⟨RR, hRR⟩ : ∃ RR, Rd.pq F ta 6 r = RR := ⟨_, rfl⟩
 rw [hRR] at hR ⊢
 obtain ⟨q, rfl⟩ : ∃ q, F = q + 1 := by
  cases F with
  | zero => rw [Rd.pq] at hRR; exact absurd hRR.symm hR
  | succ q => exact ⟨q, rfl⟩
 obtain ⟨w1, hw1⟩ : ∃ w1, w.alloc (.cells #[.int .i64 6, .int .i64 (ta : Int), .int .i64 tz, .int .i64 tn, .string ts] 47) = w1 := ⟨_, rfl⟩
 obtain ⟨w3, hw3⟩ : ∃ w3, w1.alloc (.cells #[.int .i64 0, .int .i64 0, .string ⟨#[]⟩, .slice none 0 0, .slice none 0 0, .slice none 0 0] 25) = w3 := ⟨_, rfl⟩
 obtain ⟨hb1, hs1⟩ := new_below hw1
 obtain ⟨hb3, hs3⟩ := new_below hw3
 have hT3 := (Hp.new hw1).below hb3
 have hR3 := Hp.new hw3
 have hb13 := hb1.trans (hb3.mono hb1.size)
 obtain ⟨T, hT⟩ : ∃ T, w.heap.size = T := ⟨_, rfl⟩
 obtain ⟨R, hRb⟩ : ∃ R, w1.heap.size = R := ⟨_, rfl⟩
 rw [hT] at hT3 hs1
 rw [hRb] at hR3 hs1 hs3
 have hPl := hSt.lt
 rw [hT] at hPl
 have HN : Hid (P < T ∧ R = T + 1 ∧ w3.heap.size = T + 2 ∧ w.heap.size = T) := ⟨hPl, hs1, by omega, hT⟩
 have hst3 := hSt.below hb13
 have HST3 := Lib.hid hst3
 have HSRC3 := Lib.hid (hSrc.below hb13)
 have HT3 := Lib.hid hT3
 have HR3 := Lib.hid hR3
 have HK3 : Hid (Keep (fun k => k = P) w w3) := keep_of_below hb13
 have HG := Lib.hid hG
 have HD := Lib.hid hD
 obtain ⟨pa, pre, hP, hpre, hpa⟩ := hst3
 have p0 := hP.cell 0 rfl
 clear hb1 hb3 hs1 hs3 hb13 hSt hSrc hG hD hPl
 cases r with
 | nil =>
  rw [Rd.pq] at hRR
  have HRR := Lib.hid hRR
  have hf := fail_any P tb C xs [] (ta : Int) 41 w3 HST3.out
  have y1 := hT3.cell 1 rfl
  rw [List.length_nil] at p0
  clear hT3 hR3 hP hpre hpa hRR hR
  go_enter Try.func45, Try.ntmps45
  go_wp2_with fail
  refine hf.mono ?_
  rintro e w4 ⟨rfl, hst4, hk4⟩
  unfold Rd.zeroD
  have hR4 := HR3.out.keep hk4 (by have := HN.out; omega)
  have HE := Lib.hid (Rd.Out.fin (r := RR) (x := .mk 0 0 ⟨#[]⟩ [] [] []) (HK3.out.trans hk4) (R := R) (by have := HN.out; omega) (by have := HN.out; omega) (Rd.rep_zero _ _) (.inl rfl) hst4 (.inr ⟨ta, 41, HRR.out.symm, rfl, rfl, by decide⟩))
  have r0 := hR4.cell 0 rfl
  have r1 := hR4.cell 1 rfl
  have r2 := hR4.cell 2 rfl
  have r3 := hR4.cell 3 rfl
  have r4 := hR4.cell 4 rfl
  have r5 := hR4.cell 5 rfl
  have k0 := hR4.frz 0
  have k1 := hR4.frz 1
  have k2 := hR4.frz 2
  have k3 := hR4.frz 3
  have k4 := hR4.frz 4
  have k5 := hR4.frz 5
  clear hf hst4 hk4 hR4 p0 y1 hw1 hw3
  go_wp2
  refine bodyPost_ret (v := .agg #[.int .i64 0, .int .i64 0, .string ⟨#[]⟩, .slice none 0 0, .slice none 0 0, .slice none 0 0]) (by simp [results, Try.results45, go_sem, *]) rfl ?_
  exact HE.out
 | cons x us =>
  rw [Rd.pq] at hRR
  have hdo : Rd.pd q (x :: us) ≠ .out := fun e => by rw [e] at hRR; exact hR hRR.symm
  obtain ⟨RES, hRES⟩ : ∃ RES, Rd.pd q (x :: us) = RES := ⟨_, rfl⟩
  have HCALL : Hid (∀ W, Below w3.heap.size w3 W → Calls Try.prog 28 #[.pointer (some ⟨P, 0, none⟩)] W (Rd.Out P tb C xs W RES)) := fun W hW => by
   rw [← hRES]
   exact HD.out q (by omega) (x :: us) W (by simp) (HSRC3.out.below hW) (HST3.out.below hW) hdo
  have hn0 : ((((x :: us).length : Nat) : Int) == 0) = false := by simp; omega
  rw [show (x :: us).length = us.length + 1 from rfl] at p0 hn0
  obtain ⟨n, hn⟩ : ∃ n, us.length = n := ⟨_, rfl⟩
  rw [hn] at p0 hn0
  have hn0' : (((n : Int) + 1) == 0) = false := by simp; omega
  have HBD : Hid (Below w3.heap.size w3 w3.drew) := (Below.refl _ w3).drew
  have HTS : Hid (w3.drew.cell? ⟨T, 0, none⟩ = some (.int .i64 6)) := hT3.cell 0 rfl
  have HTK : Hid (∀ W, Below w3.heap.size w3 W → W.cell? ⟨T, 0, none⟩ = some (.int .i64 6)) := fun W hW => (HT3.out.below hW).cell 0 rfl
  have HTK2 : Hid (∀ W, Keep (fun j => j = P) w3 W → W.cell? ⟨T, 0, none⟩ = some (.int .i64 6)) := fun W hW => (HT3.out.keep hW (by have := HN.out; omega)).cell 0 rfl
  have HINF : Hid ((Try.prog.info? 25).map (·.size) = some 6) := by show _ = _; kernel_rfl
  have HFIN : Hid (∀ (w5 w6 w7 : World) (y : Dt.D) (b1 b2 b3 : Option Addr) (m1 m2 m3 p1 p2 p3 : Nat) (a7 : Option Addr) (c7 : Nat) (rest : List Lx.PTok) (a2 e2 : Int), Keep (fun j => j = P) w3 w5 → Dt.Rep (fun j => w3.heap.size ≤ j) w5 y (.slice b1 m1 p1) (.slice b2 m2 p2) (.slice b3 m3 p3) → Rd.St w5 P tb C xs rest a2 e2 → Rd.Says RES y rest a2 e2 → Below w5.heap.size w5 w6 → w7.ownsRow w6.heap.size 25 6 (.slice a7 2 c7) 2 (Dt.flatP [Dt.P.mk (Rd.symD (Rd.sgn 6)) (.slice none 0 0) (.slice none 0 0) (.slice none 0 0), Dt.P.mk y (.slice b1 m1 p1) (.slice b2 m2 p2) (.slice b3 m3 p3)]) → Below w6.heap.size w6 w7 →
    w7.cell? ⟨T, 0, none⟩ = some (.int .i64 6) ∧ w7.there R 0 6 ∧ ((set6 w7 R (.int .i64 6) (.int .i64 0) (.string ⟨#[]⟩) (.slice none 0 0) (.slice a7 2 c7) (.slice none 0 0)).cell? ⟨T, 0, none⟩ = some (.int .i64 6) ∧ Hp (set6 w7 R (.int .i64 6) (.int .i64 0) (.string ⟨#[]⟩) (.slice none 0 0) (.slice a7 2 c7) (.slice none 0 0)) R #[.int .i64 6, .int .i64 0, .string ⟨#[]⟩, .slice none 0 0, .slice a7 2 c7, .slice none 0 0] 25) ∧
    Rd.Out P tb C xs w RR (.returned (.agg #[.int .i64 6, .int .i64 0, .string ⟨#[]⟩, .slice none 0 0, .slice a7 2 c7, .slice none 0 0])) (set6 w7 R (.int .i64 6) (.int .i64 0) (.string ⟨#[]⟩) (.slice none 0 0) (.slice a7 2 c7) (.slice none 0 0))) := by
   intro w5 w6 w7 y b1 b2 b3 m1 m2 m3 p1 p2 p3 a7 c7 rest a2 e2 hk5 hr5 hst5 hsay hb6 hown7 hb7
   have hN := HN.out
   have hb57 := hb6.trans (hb7.mono hb6.size)
   have hk7 := hk5.trans (keep_of_below hb57)
   have hT7 := HT3.out.keep hk7 (by omega)
   have hR7 := HR3.out.keep hk7 (by omega)
   have hks := set6_keep w7 R (.int .i64 6) (.int .i64 0) (.string ⟨#[]⟩) (.slice none 0 0) (.slice a7 2 c7) (.slice none 0 0)
   have hrow := Rd.row_of_own (F := fun j => T + 2 ≤ j) hown7 rfl (fun j e => by have := (Dt.own_lt hown7 j e).1; have := hb6.size; have := hk5.size; omega) (fun p hp => by
    simp only [List.mem_cons, List.not_mem_nil, or_false] at hp
    rcases hp with rfl | rfl
    ·exact Rd.rep_sym _ _ _
    ·exact Dt.Rep.mono (fun j hj _ => by omega) y (Dt.Rep.below hb57 hr5))
   refine ⟨hT7.cell 0 rfl, hR7.there (Nat.le_refl _), ⟨(hT7.keep hks (by omega)).cell 0 rfl, hR7.set6 _ _ _ _ _ _⟩, ?_⟩
   refine Rd.Out.fin (r := RR) (x := Rd.quoteD 6 y) (HK3.out.trans hk7) (R := R) (by omega) (by omega) (Dt.Rep.mono (fun j hj _ => by omega) _ (Rd.rep_row 6 hrow)) (Rd.own_nz hown7) (hst5.below hb57) ?_
   rcases hsay with ⟨e, h1, h2⟩ | ⟨b, c, e, h1, h2, h3⟩
   ·rw [hRES, e] at hRR
    exact .inl ⟨hRR.symm, h1, h2⟩
   ·rw [hRES, e] at hRR
    exact .inr ⟨b, c, hRR.symm, h1, h2, h3⟩
  have hidx : ∀ w, (Instr.index 91 (.agg #[.string ⟨#[113, 117, 111, 116, 101]⟩, .string ⟨#[113, 117, 97, 115, 105, 113, 117, 111, 116, 101]⟩, .string ⟨#[117, 110, 113, 117, 111, 116, 101]⟩, .string ⟨#[117, 110, 113, 117, 111, 116, 101, 45, 115, 112, 108, 105, 99, 105, 110, 103]⟩]) (.int .i64 2)).run Try.prog w = .ok (.string ⟨#[117, 110, 113, 117, 111, 116, 101]⟩) w := fun _ => by kernel_rfl
  have hwr : IntKind.i64.wrap 2 = 2 := by decide
  clear hT3 hR3 hP hpre hpa hRR hR hdo hn hn0 hRES
  go_enter Try.func45, Try.ntmps45
  go_upto_region 3 with fail
  clear p0 hw1 hw3
  refine wp_region_noPanic ?_
  refine wp_region_held_drew (S := fun W => W.cell? ⟨T, 0, none⟩ = some (.int .i64 6)) (by kernel_rfl) HTS.out (fun hHeld => ?_)
  refine wpAnyH_take (i := 1) (oi := ⟨_, _, _, _, _, _⟩) (v := ?_) rfl (by kernel_rfl) (by kernel_rfl) (by kernel_rfl) (fun _ _ _ h => h) (Or.inl ⟨by rfl, ?_⟩) (by assumption) ?_
  rotate_left
  ·intro w hSw
   clear hSw
   go_simp
   try with_reducible rfl
  simp only [Act.put, List.setIfInBounds_toArray, List.set_cons_zero, List.set_cons_succ]
  refine wpAnyH_take (i := 6) (oi := ⟨_, _, _, _, _, _⟩) (v := ?_) rfl (by kernel_rfl) (by kernel_rfl) (by kernel_rfl) (fun _ _ _ h => h) (Or.inl ⟨by rfl, ?_⟩) (by assumption) ?_
  rotate_left
  ·intro w hSw
   clear hSw
   go_simp
   try with_reducible rfl
  simp only [Act.put, List.setIfInBounds_toArray, List.set_cons_zero, List.set_cons_succ]
  refine wpAnyH_take (i := 2) (oi := ⟨_, _, _, _, _, _⟩) (v := .int .i64 6) rfl (by kernel_rfl) (by kernel_rfl) (by kernel_rfl) (fun _ _ _ h => h) (Or.inl ⟨by rfl, ?_⟩) (by assumption) ?_
  ·intro w hSw
   have s0 := hSw
   go_simp
   try with_reducible rfl
  simp only [Act.put, List.setIfInBounds_toArray, List.set_cons_zero, List.set_cons_succ]
  refine wpAnyH_take (i := 3) (oi := ⟨_, _, _, _, _, _⟩) (v := .int .i64 2) rfl (by kernel_rfl) (by kernel_rfl) (by kernel_rfl) (fun _ _ _ h => h) (Or.inl ⟨by rfl, ?_⟩) (by assumption) ?_
  ·intro w hSw
   clear hSw
   go_simp
   try with_reducible rfl
  simp only [Act.put, List.setIfInBounds_toArray, List.set_cons_zero, List.set_cons_succ]
  refine wpAnyH_ready (rs := [0]) (by kernel_rfl) (by simp) ?_
  refine AllReadyH.cons (o := ⟨_, _, _, _, _, _⟩) rfl (fun K hK => ?_) AllReadyH.nil
  go_simp
  refine (signs_any _).mono ?_
  rintro e w4 ⟨rfl, hb4⟩
  have HB4 : Hid (Below w3.heap.size w3 w4) := HBD.out.trans hb4
  clear hb4
  dsimp only
  refine hK.out _ _ ?_ (fun hHeld => ?_)
  ·exact HTK.out _ HB4.out
  clear hK K
  try simp only [Act.put, List.setIfInBounds_toArray, List.set_cons_zero, List.set_cons_succ]
  refine wpAnyH_take (i := 4) (oi := ⟨_, _, _, _, _, _⟩) (v := .string ⟨#[117, 110, 113, 117, 111, 116, 101]⟩) rfl (by kernel_rfl) (by kernel_rfl) (by kernel_rfl) (fun _ _ _ h => h) (Or.inl ⟨by rfl, ?_⟩) (by assumption) ?_
  ·intro w hSw
   clear hSw
   have i0 := hidx w
   go_simp
   try with_reducible rfl
  simp only [Act.put, List.setIfInBounds_toArray, List.set_cons_zero, List.set_cons_succ]
  refine wpAnyH_take (i := 5) (oi := ⟨_, _, _, _, _, _⟩) (v := ?_) rfl (by kernel_rfl) (by kernel_rfl) (by kernel_rfl) (fun _ _ _ h => h) (Or.inl ⟨by rfl, ?_⟩) (by assumption) ?_
  rotate_left
  ·intro w hSw
   clear hSw
   go_simp
   try with_reducible rfl
  simp only [Act.put, List.setIfInBounds_toArray, List.set_cons_zero, List.set_cons_succ]
  refine wpAnyH_ready (rs := [7]) (by kernel_rfl) (by simp) ?_
  refine AllReadyH.cons (o := ⟨_, _, _, _, _, _⟩) rfl (fun K hK => ?_) AllReadyH.nil
  go_simp
  refine (HCALL.out _ HB4.out).mono ?_
  rintro e w5 ⟨y, vm, vl, vt, rest, a2, e2, rfl, hr5, -, hst5, hk5, hsay⟩
  obtain ⟨b1, m1, p1, b2, m2, p2, b3, m3, p3, rfl, rfl, rfl⟩ := hr5.forms
  have HK5 : Hid (Keep (fun j => j = P) w3 w5) := (keep_of_below HB4.out).trans hk5
  have HR5 : Hid (Dt.Rep (fun j => w3.heap.size ≤ j) w5 y (.slice b1 m1 p1) (.slice b2 m2 p2) (.slice b3 m3 p3)) := Dt.Rep.mono (fun j hj _ => Nat.le_trans HB4.out.size hj) y hr5
  have HST5 := Lib.hid hst5
  have HSAY := Lib.hid hsay
  clear hr5 hst5 hk5 hsay
  dsimp only
  refine hK.out _ _ ?_ (fun hHeld => ?_)
  ·exact HTK2.out _ HK5.out
  clear hK K
  try simp only [Act.put, List.setIfInBounds_toArray, List.set_cons_zero, List.set_cons_succ]
  refine wpAnyH_ready (rs := [8]) (by kernel_rfl) (by simp) ?_
  refine AllReadyH.cons (o := ⟨_, _, _, _, _, _⟩) rfl (fun K hK => ?_) AllReadyH.nil
  go_simp
  obtain ⟨w6, hw6⟩ : ∃ w6, w5.alloc (.cells #[.int .i64 5, .int .i64 0, .string ⟨#[117, 110, 113, 117, 111, 116, 101]⟩, .slice none 0 0, .slice none 0 0, .slice none 0 0, .int .i64 y.k, .int .i64 y.n, .string y.s, .slice b1 m1 p1, .slice b2 m2 p2, .slice b3 m3 p3] 25) = w6 := ⟨_, rfl⟩
  rw [hw6]
  have HB6 := Lib.hid (new_below hw6)
  have HP6 := Lib.hid (Hp.new hw6)
  clear hw6
  refine hK.out _ _ ?_ (fun hHeld => ?_)
  ·exact HTK2.out _ (HK5.out.trans (keep_of_below HB6.out.1))
  clear hK K
  try simp only [Act.put, List.setIfInBounds_toArray, List.set_cons_zero, List.set_cons_succ]
  refine wpAnyH_ready (rs := [9]) (by kernel_rfl) (by simp) ?_
  refine AllReadyH.cons (o := ⟨_, _, _, _, _, _⟩) rfl (fun K hK => ?_) AllReadyH.nil
  go_simp
  refine (dataList_any w5.heap.size 2 2 [Dt.P.mk (Rd.symD (Rd.sgn 6)) (.slice none 0 0) (.slice none 0 0) (.slice none 0 0), Dt.P.mk y (.slice b1 m1 p1) (.slice b2 m2 p2) (.slice b3 m3 p3)] _ (Rd.two_src (y := y) HP6.out) rfl (by decide) (Rd.flatP_one _ (fun p hp => Rd.two_forms hp))).mono ?_
  rintro e w7 ⟨a7, c7, rfl, hown7, hb7⟩
  obtain ⟨g1, g2, g3, g4⟩ := HFIN.out w5 w6 w7 y b1 b2 b3 m1 m2 m3 p1 p2 p3 a7 c7 rest a2 e2 HK5.out HR5.out HST5.out HSAY.out HB6.out.1 hown7 hb7
  obtain ⟨w9, hw9⟩ : ∃ w9, set6 w7 R (.int .i64 6) (.int .i64 0) (.string ⟨#[]⟩) (.slice none 0 0) (.slice a7 2 c7) (.slice none 0 0) = w9 := ⟨_, rfl⟩
  rw [hw9] at g3 g4
  have HTH := Lib.hid g2
  have HG1 := Lib.hid g1
  have HG3 : Hid (w9.cell? ⟨T, 0, none⟩ = some (.int .i64 6)) := g3.1
  have HE := Lib.hid g4
  have HW9 := Lib.hid hw9
  have e0 := g3.2.cell 0 rfl
  have e1 := g3.2.cell 1 rfl
  have e2' := g3.2.cell 2 rfl
  have e3 := g3.2.cell 3 rfl
  have e4 := g3.2.cell 4 rfl
  have e5 := g3.2.cell 5 rfl
  clear hown7 hb7 g1 g2 g3 g4 hw9
  dsimp only
  refine hK.out _ _ ?_ (fun hHeld => ?_)
  ·exact HG1.out
  clear hK K
  try simp only [Act.put, List.setIfInBounds_toArray, List.set_cons_zero, List.set_cons_succ]
  refine wpAnyH_ready (rs := [10]) (by kernel_rfl) (by simp) ?_
  refine AllReadyH.cons (o := ⟨_, _, _, _, _, _⟩) rfl (fun K hK => ?_) AllReadyH.nil
  refine wp_store_mid _ _ _ rfl R 0 #[.int .i64 6, .int .i64 0, .string ⟨#[]⟩, .slice none 0 0, .slice a7 2 c7, .slice none 0 0] rfl rfl HTH.out HINF.out (by simp [Value.oneCell']) ?_
  rw [setCells6, HW9.out]
  refine hK.out _ _ ?_ (fun hHeld => ?_)
  ·exact HG3.out
  clear hK K
  try simp only [Act.put]
  refine wpAnyH_done (by kernel_rfl) ?_ _
  refine NoPanic.normal ?_
  go_wp2
  refine bodyPost_ret (v := .agg #[.int .i64 6, .int .i64 0, .string ⟨#[]⟩, .slice none 0 0, .slice a7 2 c7, .slice none 0 0]) (by simp [results, Try.results45, go_sem, *]) rfl ?_
  exact HE.out
set_option maxRecDepth 100000 in
set_option maxHeartbeats 16000000 in
theorem quote_7 (P tb C : Nat) (xs : List Lx.PTok) (hG : Rd.G P tb C xs) (F : Nat) (hD : ∀ g, g < F → Rd.DatumIs P tb C xs g) (ta : Nat) (tz tn : Int) (ts : ByteArray) (r : List Lx.PTok) (w : World) (hSrc : Rd.Src w tb xs) (hSt : Rd.St w P tb C xs r 0 0) (hR : Rd.pq F ta 7 r ≠ .out) :
  Calls Try.prog 45 #[.pointer (some ⟨P, 0, none⟩), .agg #[.int .i64 7, .int .i64 (ta : Int), .int .i64 tz, .int .i64 tn, .string ts]] w (Rd.Out P tb C xs w (Rd.pq F ta 7 r)) := by
 obtain ⟨RR, hRR⟩ : ∃ RR, Rd.pq F ta 7 r = RR := ⟨_, rfl⟩
 rw [hRR] at hR ⊢
 obtain ⟨q, rfl⟩ : ∃ q, F = q + 1 := by
  cases F with
  | zero => rw [Rd.pq] at hRR; exact absurd hRR.symm hR
  | succ q => exact ⟨q, rfl⟩
 obtain ⟨w1, hw1⟩ : ∃ w1, w.alloc (.cells #[.int .i64 7, .int .i64 (ta : Int), .int .i64 tz, .int .i64 tn, .string ts] 47) = w1 := ⟨_, rfl⟩
 obtain ⟨w3, hw3⟩ : ∃ w3, w1.alloc (.cells #[.int .i64 0, .int .i64 0, .string ⟨#[]⟩, .slice none 0 0, .slice none 0 0, .slice none 0 0] 25) = w3 := ⟨_, rfl⟩
 obtain ⟨hb1, hs1⟩ := new_below hw1
 obtain ⟨hb3, hs3⟩ := new_below hw3
 have hT3 := (Hp.new hw1).below hb3
 have hR3 := Hp.new hw3
 have hb13 := hb1.trans (hb3.mono hb1.size)
 obtain ⟨T, hT⟩ : ∃ T, w.heap.size = T := ⟨_, rfl⟩
 obtain ⟨R, hRb⟩ : ∃ R, w1.heap.size = R := ⟨_, rfl⟩
 rw [hT] at hT3 hs1
 rw [hRb] at hR3 hs1 hs3
 have hPl := hSt.lt
 rw [hT] at hPl
 have HN : Hid (P < T ∧ R = T + 1 ∧ w3.heap.size = T + 2 ∧ w.heap.size = T) := ⟨hPl, hs1, by omega, hT⟩
 have hst3 := hSt.below hb13
 have HST3 := Lib.hid hst3
 have HSRC3 := Lib.hid (hSrc.below hb13)
 have HT3 := Lib.hid hT3
 have HR3 := Lib.hid hR3
 have HK3 : Hid (Keep (fun k => k = P) w w3) := keep_of_below hb13
 have HG := Lib.hid hG
 have HD := Lib.hid hD
 obtain ⟨pa, pre, hP, hpre, hpa⟩ := hst3
 have p0 := hP.cell 0 rfl
 clear hb1 hb3 hs1 hs3 hb13 hSt hSrc hG hD hPl
 cases r with
 | nil =>
  rw [Rd.pq] at hRR
  have HRR := Lib.hid hRR
  have hf := fail_any P tb C xs [] (ta : Int) 41 w3 HST3.out
  have y1 := hT3.cell 1 rfl
  rw [List.length_nil] at p0
  clear hT3 hR3 hP hpre hpa hRR hR
  go_enter Try.func45, Try.ntmps45
  go_wp2_with fail
  refine hf.mono ?_
  rintro e w4 ⟨rfl, hst4, hk4⟩
  unfold Rd.zeroD
  have hR4 := HR3.out.keep hk4 (by have := HN.out; omega)
  have HE := Lib.hid (Rd.Out.fin (r := RR) (x := .mk 0 0 ⟨#[]⟩ [] [] []) (HK3.out.trans hk4) (R := R) (by have := HN.out; omega) (by have := HN.out; omega) (Rd.rep_zero _ _) (.inl rfl) hst4 (.inr ⟨ta, 41, HRR.out.symm, rfl, rfl, by decide⟩))
  have r0 := hR4.cell 0 rfl
  have r1 := hR4.cell 1 rfl
  have r2 := hR4.cell 2 rfl
  have r3 := hR4.cell 3 rfl
  have r4 := hR4.cell 4 rfl
  have r5 := hR4.cell 5 rfl
  have k0 := hR4.frz 0
  have k1 := hR4.frz 1
  have k2 := hR4.frz 2
  have k3 := hR4.frz 3
  have k4 := hR4.frz 4
  have k5 := hR4.frz 5
  clear hf hst4 hk4 hR4 p0 y1 hw1 hw3
  go_wp2
  refine bodyPost_ret (v := .agg #[.int .i64 0, .int .i64 0, .string ⟨#[]⟩, .slice none 0 0, .slice none 0 0, .slice none 0 0]) (by simp [results, Try.results45, go_sem, *]) rfl ?_
  exact HE.out
 | cons x us =>
  rw [Rd.pq] at hRR
  have hdo : Rd.pd q (x :: us) ≠ .out := fun e => by rw [e] at hRR; exact hR hRR.symm
  obtain ⟨RES, hRES⟩ : ∃ RES, Rd.pd q (x :: us) = RES := ⟨_, rfl⟩
  have HCALL : Hid (∀ W, Below w3.heap.size w3 W → Calls Try.prog 28 #[.pointer (some ⟨P, 0, none⟩)] W (Rd.Out P tb C xs W RES)) := fun W hW => by
   rw [← hRES]
   exact HD.out q (by omega) (x :: us) W (by simp) (HSRC3.out.below hW) (HST3.out.below hW) hdo
  have hn0 : ((((x :: us).length : Nat) : Int) == 0) = false := by simp; omega
  rw [show (x :: us).length = us.length + 1 from rfl] at p0 hn0
  obtain ⟨n, hn⟩ : ∃ n, us.length = n := ⟨_, rfl⟩
  rw [hn] at p0 hn0
  have hn0' : (((n : Int) + 1) == 0) = false := by simp; omega
  have HBD : Hid (Below w3.heap.size w3 w3.drew) := (Below.refl _ w3).drew
  have HTS : Hid (w3.drew.cell? ⟨T, 0, none⟩ = some (.int .i64 7)) := hT3.cell 0 rfl
  have HTK : Hid (∀ W, Below w3.heap.size w3 W → W.cell? ⟨T, 0, none⟩ = some (.int .i64 7)) := fun W hW => (HT3.out.below hW).cell 0 rfl
  have HTK2 : Hid (∀ W, Keep (fun j => j = P) w3 W → W.cell? ⟨T, 0, none⟩ = some (.int .i64 7)) := fun W hW => (HT3.out.keep hW (by have := HN.out; omega)).cell 0 rfl
  have HINF : Hid ((Try.prog.info? 25).map (·.size) = some 6) := by show _ = _; kernel_rfl
  have HFIN : Hid (∀ (w5 w6 w7 : World) (y : Dt.D) (b1 b2 b3 : Option Addr) (m1 m2 m3 p1 p2 p3 : Nat) (a7 : Option Addr) (c7 : Nat) (rest : List Lx.PTok) (a2 e2 : Int), Keep (fun j => j = P) w3 w5 → Dt.Rep (fun j => w3.heap.size ≤ j) w5 y (.slice b1 m1 p1) (.slice b2 m2 p2) (.slice b3 m3 p3) → Rd.St w5 P tb C xs rest a2 e2 → Rd.Says RES y rest a2 e2 → Below w5.heap.size w5 w6 → w7.ownsRow w6.heap.size 25 6 (.slice a7 2 c7) 2 (Dt.flatP [Dt.P.mk (Rd.symD (Rd.sgn 7)) (.slice none 0 0) (.slice none 0 0) (.slice none 0 0), Dt.P.mk y (.slice b1 m1 p1) (.slice b2 m2 p2) (.slice b3 m3 p3)]) → Below w6.heap.size w6 w7 →
    w7.cell? ⟨T, 0, none⟩ = some (.int .i64 7) ∧ w7.there R 0 6 ∧ ((set6 w7 R (.int .i64 6) (.int .i64 0) (.string ⟨#[]⟩) (.slice none 0 0) (.slice a7 2 c7) (.slice none 0 0)).cell? ⟨T, 0, none⟩ = some (.int .i64 7) ∧ Hp (set6 w7 R (.int .i64 6) (.int .i64 0) (.string ⟨#[]⟩) (.slice none 0 0) (.slice a7 2 c7) (.slice none 0 0)) R #[.int .i64 6, .int .i64 0, .string ⟨#[]⟩, .slice none 0 0, .slice a7 2 c7, .slice none 0 0] 25) ∧
    Rd.Out P tb C xs w RR (.returned (.agg #[.int .i64 6, .int .i64 0, .string ⟨#[]⟩, .slice none 0 0, .slice a7 2 c7, .slice none 0 0])) (set6 w7 R (.int .i64 6) (.int .i64 0) (.string ⟨#[]⟩) (.slice none 0 0) (.slice a7 2 c7) (.slice none 0 0))) := by
   intro w5 w6 w7 y b1 b2 b3 m1 m2 m3 p1 p2 p3 a7 c7 rest a2 e2 hk5 hr5 hst5 hsay hb6 hown7 hb7
   have hN := HN.out
   have hb57 := hb6.trans (hb7.mono hb6.size)
   have hk7 := hk5.trans (keep_of_below hb57)
   have hT7 := HT3.out.keep hk7 (by omega)
   have hR7 := HR3.out.keep hk7 (by omega)
   have hks := set6_keep w7 R (.int .i64 6) (.int .i64 0) (.string ⟨#[]⟩) (.slice none 0 0) (.slice a7 2 c7) (.slice none 0 0)
   have hrow := Rd.row_of_own (F := fun j => T + 2 ≤ j) hown7 rfl (fun j e => by have := (Dt.own_lt hown7 j e).1; have := hb6.size; have := hk5.size; omega) (fun p hp => by
    simp only [List.mem_cons, List.not_mem_nil, or_false] at hp
    rcases hp with rfl | rfl
    ·exact Rd.rep_sym _ _ _
    ·exact Dt.Rep.mono (fun j hj _ => by omega) y (Dt.Rep.below hb57 hr5))
   refine ⟨hT7.cell 0 rfl, hR7.there (Nat.le_refl _), ⟨(hT7.keep hks (by omega)).cell 0 rfl, hR7.set6 _ _ _ _ _ _⟩, ?_⟩
   refine Rd.Out.fin (r := RR) (x := Rd.quoteD 7 y) (HK3.out.trans hk7) (R := R) (by omega) (by omega) (Dt.Rep.mono (fun j hj _ => by omega) _ (Rd.rep_row 6 hrow)) (Rd.own_nz hown7) (hst5.below hb57) ?_
   rcases hsay with ⟨e, h1, h2⟩ | ⟨b, c, e, h1, h2, h3⟩
   ·rw [hRES, e] at hRR
    exact .inl ⟨hRR.symm, h1, h2⟩
   ·rw [hRES, e] at hRR
    exact .inr ⟨b, c, hRR.symm, h1, h2, h3⟩
  have hidx : ∀ w, (Instr.index 91 (.agg #[.string ⟨#[113, 117, 111, 116, 101]⟩, .string ⟨#[113, 117, 97, 115, 105, 113, 117, 111, 116, 101]⟩, .string ⟨#[117, 110, 113, 117, 111, 116, 101]⟩, .string ⟨#[117, 110, 113, 117, 111, 116, 101, 45, 115, 112, 108, 105, 99, 105, 110, 103]⟩]) (.int .i64 3)).run Try.prog w = .ok (.string ⟨#[117, 110, 113, 117, 111, 116, 101, 45, 115, 112, 108, 105, 99, 105, 110, 103]⟩) w := fun _ => by kernel_rfl
  have hwr : IntKind.i64.wrap 3 = 3 := by decide
  clear hT3 hR3 hP hpre hpa hRR hR hdo hn hn0 hRES
  go_enter Try.func45, Try.ntmps45
  go_upto_region 3 with fail
  clear p0 hw1 hw3
  refine wp_region_noPanic ?_
  refine wp_region_held_drew (S := fun W => W.cell? ⟨T, 0, none⟩ = some (.int .i64 7)) (by kernel_rfl) HTS.out (fun hHeld => ?_)
  refine wpAnyH_take (i := 1) (oi := ⟨_, _, _, _, _, _⟩) (v := ?_) rfl (by kernel_rfl) (by kernel_rfl) (by kernel_rfl) (fun _ _ _ h => h) (Or.inl ⟨by rfl, ?_⟩) (by assumption) ?_
  rotate_left
  ·intro w hSw
   clear hSw
   go_simp
   try with_reducible rfl
  simp only [Act.put, List.setIfInBounds_toArray, List.set_cons_zero, List.set_cons_succ]
  refine wpAnyH_take (i := 6) (oi := ⟨_, _, _, _, _, _⟩) (v := ?_) rfl (by kernel_rfl) (by kernel_rfl) (by kernel_rfl) (fun _ _ _ h => h) (Or.inl ⟨by rfl, ?_⟩) (by assumption) ?_
  rotate_left
  ·intro w hSw
   clear hSw
   go_simp
   try with_reducible rfl
  simp only [Act.put, List.setIfInBounds_toArray, List.set_cons_zero, List.set_cons_succ]
  refine wpAnyH_take (i := 2) (oi := ⟨_, _, _, _, _, _⟩) (v := .int .i64 7) rfl (by kernel_rfl) (by kernel_rfl) (by kernel_rfl) (fun _ _ _ h => h) (Or.inl ⟨by rfl, ?_⟩) (by assumption) ?_
  ·intro w hSw
   have s0 := hSw
   go_simp
   try with_reducible rfl
  simp only [Act.put, List.setIfInBounds_toArray, List.set_cons_zero, List.set_cons_succ]
  refine wpAnyH_take (i := 3) (oi := ⟨_, _, _, _, _, _⟩) (v := .int .i64 3) rfl (by kernel_rfl) (by kernel_rfl) (by kernel_rfl) (fun _ _ _ h => h) (Or.inl ⟨by rfl, ?_⟩) (by assumption) ?_
  ·intro w hSw
   clear hSw
   go_simp
   try with_reducible rfl
  simp only [Act.put, List.setIfInBounds_toArray, List.set_cons_zero, List.set_cons_succ]
  refine wpAnyH_ready (rs := [0]) (by kernel_rfl) (by simp) ?_
  refine AllReadyH.cons (o := ⟨_, _, _, _, _, _⟩) rfl (fun K hK => ?_) AllReadyH.nil
  go_simp
  refine (signs_any _).mono ?_
  rintro e w4 ⟨rfl, hb4⟩
  have HB4 : Hid (Below w3.heap.size w3 w4) := HBD.out.trans hb4
  clear hb4
  dsimp only
  refine hK.out _ _ ?_ (fun hHeld => ?_)
  ·exact HTK.out _ HB4.out
  clear hK K
  try simp only [Act.put, List.setIfInBounds_toArray, List.set_cons_zero, List.set_cons_succ]
  refine wpAnyH_take (i := 4) (oi := ⟨_, _, _, _, _, _⟩) (v := .string ⟨#[117, 110, 113, 117, 111, 116, 101, 45, 115, 112, 108, 105, 99, 105, 110, 103]⟩) rfl (by kernel_rfl) (by kernel_rfl) (by kernel_rfl) (fun _ _ _ h => h) (Or.inl ⟨by rfl, ?_⟩) (by assumption) ?_
  ·intro w hSw
   clear hSw
   have i0 := hidx w
   go_simp
   try with_reducible rfl
  simp only [Act.put, List.setIfInBounds_toArray, List.set_cons_zero, List.set_cons_succ]
  refine wpAnyH_take (i := 5) (oi := ⟨_, _, _, _, _, _⟩) (v := ?_) rfl (by kernel_rfl) (by kernel_rfl) (by kernel_rfl) (fun _ _ _ h => h) (Or.inl ⟨by rfl, ?_⟩) (by assumption) ?_
  rotate_left
  ·intro w hSw
   clear hSw
   go_simp
   try with_reducible rfl
  simp only [Act.put, List.setIfInBounds_toArray, List.set_cons_zero, List.set_cons_succ]
  refine wpAnyH_ready (rs := [7]) (by kernel_rfl) (by simp) ?_
  refine AllReadyH.cons (o := ⟨_, _, _, _, _, _⟩) rfl (fun K hK => ?_) AllReadyH.nil
  go_simp
  refine (HCALL.out _ HB4.out).mono ?_
  rintro e w5 ⟨y, vm, vl, vt, rest, a2, e2, rfl, hr5, -, hst5, hk5, hsay⟩
  obtain ⟨b1, m1, p1, b2, m2, p2, b3, m3, p3, rfl, rfl, rfl⟩ := hr5.forms
  have HK5 : Hid (Keep (fun j => j = P) w3 w5) := (keep_of_below HB4.out).trans hk5
  have HR5 : Hid (Dt.Rep (fun j => w3.heap.size ≤ j) w5 y (.slice b1 m1 p1) (.slice b2 m2 p2) (.slice b3 m3 p3)) := Dt.Rep.mono (fun j hj _ => Nat.le_trans HB4.out.size hj) y hr5
  have HST5 := Lib.hid hst5
  have HSAY := Lib.hid hsay
  clear hr5 hst5 hk5 hsay
  dsimp only
  refine hK.out _ _ ?_ (fun hHeld => ?_)
  ·exact HTK2.out _ HK5.out
  clear hK K
  try simp only [Act.put, List.setIfInBounds_toArray, List.set_cons_zero, List.set_cons_succ]
  refine wpAnyH_ready (rs := [8]) (by kernel_rfl) (by simp) ?_
  refine AllReadyH.cons (o := ⟨_, _, _, _, _, _⟩) rfl (fun K hK => ?_) AllReadyH.nil
  go_simp
  obtain ⟨w6, hw6⟩ : ∃ w6, w5.alloc (.cells #[.int .i64 5, .int .i64 0, .string ⟨#[117, 110, 113, 117, 111, 116, 101, 45, 115, 112, 108, 105, 99, 105, 110, 103]⟩, .slice none 0 0, .slice none 0 0, .slice none 0 0, .int .i64 y.k, .int .i64 y.n, .string y.s, .slice b1 m1 p1, .slice b2 m2 p2, .slice b3 m3 p3] 25) = w6 := ⟨_, rfl⟩
  rw [hw6]
  have HB6 := Lib.hid (new_below hw6)
  have HP6 := Lib.hid (Hp.new hw6)
  clear hw6
  refine hK.out _ _ ?_ (fun hHeld => ?_)
  ·exact HTK2.out _ (HK5.out.trans (keep_of_below HB6.out.1))
  clear hK K
  try simp only [Act.put, List.setIfInBounds_toArray, List.set_cons_zero, List.set_cons_succ]
  refine wpAnyH_ready (rs := [9]) (by kernel_rfl) (by simp) ?_
  refine AllReadyH.cons (o := ⟨_, _, _, _, _, _⟩) rfl (fun K hK => ?_) AllReadyH.nil
  go_simp
  refine (dataList_any w5.heap.size 2 2 [Dt.P.mk (Rd.symD (Rd.sgn 7)) (.slice none 0 0) (.slice none 0 0) (.slice none 0 0), Dt.P.mk y (.slice b1 m1 p1) (.slice b2 m2 p2) (.slice b3 m3 p3)] _ (Rd.two_src (y := y) HP6.out) rfl (by decide) (Rd.flatP_one _ (fun p hp => Rd.two_forms hp))).mono ?_
  rintro e w7 ⟨a7, c7, rfl, hown7, hb7⟩
  obtain ⟨g1, g2, g3, g4⟩ := HFIN.out w5 w6 w7 y b1 b2 b3 m1 m2 m3 p1 p2 p3 a7 c7 rest a2 e2 HK5.out HR5.out HST5.out HSAY.out HB6.out.1 hown7 hb7
  obtain ⟨w9, hw9⟩ : ∃ w9, set6 w7 R (.int .i64 6) (.int .i64 0) (.string ⟨#[]⟩) (.slice none 0 0) (.slice a7 2 c7) (.slice none 0 0) = w9 := ⟨_, rfl⟩
  rw [hw9] at g3 g4
  have HTH := Lib.hid g2
  have HG1 := Lib.hid g1
  have HG3 : Hid (w9.cell? ⟨T, 0, none⟩ = some (.int .i64 7)) := g3.1
  have HE := Lib.hid g4
  have HW9 := Lib.hid hw9
  have e0 := g3.2.cell 0 rfl
  have e1 := g3.2.cell 1 rfl
  have e2' := g3.2.cell 2 rfl
  have e3 := g3.2.cell 3 rfl
  have e4 := g3.2.cell 4 rfl
  have e5 := g3.2.cell 5 rfl
  clear hown7 hb7 g1 g2 g3 g4 hw9
  dsimp only
  refine hK.out _ _ ?_ (fun hHeld => ?_)
  ·exact HG1.out
  clear hK K
  try simp only [Act.put, List.setIfInBounds_toArray, List.set_cons_zero, List.set_cons_succ]
  refine wpAnyH_ready (rs := [10]) (by kernel_rfl) (by simp) ?_
  refine AllReadyH.cons (o := ⟨_, _, _, _, _, _⟩) rfl (fun K hK => ?_) AllReadyH.nil
  refine wp_store_mid _ _ _ rfl R 0 #[.int .i64 6, .int .i64 0, .string ⟨#[]⟩, .slice none 0 0, .slice a7 2 c7, .slice none 0 0] rfl rfl HTH.out HINF.out (by simp [Value.oneCell']) ?_
  rw [setCells6, HW9.out]
  refine hK.out _ _ ?_ (fun hHeld => ?_)
  ·exact HG3.out
  clear hK K
  try simp only [Act.put]
  refine wpAnyH_done (by kernel_rfl) ?_ _
  refine NoPanic.normal ?_
  go_wp2
  refine bodyPost_ret (v := .agg #[.int .i64 6, .int .i64 0, .string ⟨#[]⟩, .slice none 0 0, .slice a7 2 c7, .slice none 0 0]) (by simp [results, Try.results45, go_sem, *]) rfl ?_
  exact HE.out
end Go.Proofs.Ytcopdfihaheplaa
namespace Go.Proofs.Ytcopdfihaheplaa
open Go.RowKit
attribute [local go_sem] Oper.semAt_some
set_option maxRecDepth 100000 in
set_option maxHeartbeats 8000000 in
theorem leaf_9 (P : Nat) (tn ta tz : Int) (ts : ByteArray) (w : World) :
  Calls Try.prog 41 #[.pointer (some ⟨P, 0, none⟩), .agg #[.int .i64 9, .int .i64 ta, .int .i64 tz, .int .i64 tn, .string ts]] w fun e w' => e = .returned (.agg #[.int .i64 1, .int .i64 tn, .string ts, .slice none 0 0, .slice none 0 0, .slice none 0 0]) ∧ Below w.heap.size w w' := by
 obtain ⟨w1, hw1⟩ : ∃ w1, w.alloc (.cells #[.int .i64 9, .int .i64 ta, .int .i64 tz, .int .i64 tn, .string ts] 47) = w1 := ⟨_, rfl⟩
 obtain ⟨w2, hw2⟩ : ∃ w2, w1.alloc (.cells #[.int .i64 0, .int .i64 0, .string ⟨#[]⟩, .slice none 0 0, .slice none 0 0, .slice none 0 0] 25) = w2 := ⟨_, rfl⟩
 obtain ⟨w3, hw3⟩ : ∃ w3, w2.alloc (.cells #[.int .i64 0, .int .i64 0, .int .i64 0, .int .i64 0, .int .i64 0, .int .i64 0, .int .i64 0, .int .i64 0, .int .i64 0, .int .i64 1, .int .i64 2, .int .i64 3, .int .i64 4, .int .i64 5] 107) = w3 := ⟨_, rfl⟩
 obtain ⟨hb1, hs1⟩ := new_below hw1
 obtain ⟨hb2, hs2⟩ := new_below hw2
 obtain ⟨hb3, hs3⟩ := new_below hw3
 have hT3 := ((Hp.new hw1).below hb2).below hb3
 have hR3 := (Hp.new hw2).below hb3
 have hA3 := Hp.new hw3
 obtain ⟨T, hT⟩ : ∃ T, w.heap.size = T := ⟨_, rfl⟩
 obtain ⟨R, hR⟩ : ∃ R, w1.heap.size = R := ⟨_, rfl⟩
 obtain ⟨A, hA⟩ : ∃ A, w2.heap.size = A := ⟨_, rfl⟩
 rw [hT] at hT3 hs1
 rw [hR] at hR3 hs1 hs2
 rw [hA] at hA3 hs2 hs3
 obtain ⟨w5, hw5⟩ : ∃ w5, set6 w3.drew R (.int .i64 1) (.int .i64 tn) (.string ts) (.slice none 0 0) (.slice none 0 0) (.slice none 0 0) = w5 := ⟨_, rfl⟩
 have hRd : Hp w3.drew R #[.int .i64 0, .int .i64 0, .string ⟨#[]⟩, .slice none 0 0, .slice none 0 0, .slice none 0 0] 25 := hR3
 have hTd : Hp w3.drew T _ _ := hT3
 have hAd : Hp w3.drew A _ _ := hA3
 have hk5 : Keep (fun k => k = R) w3.drew w5 := by rw [← hw5]; exact set6_keep _ _ _ _ _ _ _ _
 have hR5 : Hp w5 R #[.int .i64 1, .int .i64 tn, .string ts, .slice none 0 0, .slice none 0 0, .slice none 0 0] 25 := by rw [← hw5]; exact hRd.set6 _ _ _ _ _ _
 have HEND : Hid (Below w.heap.size w w5) := by
  have hb := hb1.trans ((hb2.trans (hb3.mono hb2.size)).mono hb1.size)
  exact hb.drew.trans (hk5.to_below (fun k e => by omega) (Nat.le_trans hb.size (Nat.le_refl _)))
 have HS0 : w3.drew.cell? ⟨T, 0, none⟩ = some (.int .i64 9) ∧ w3.drew.cell? ⟨T, 3, none⟩ = some (.int .i64 tn) ∧ w3.drew.cell? ⟨T, 4, none⟩ = some (.string ts) ∧ w3.drew.cell? ⟨A, 9, none⟩ = some (.int .i64 1) := ⟨hTd.cell 0 rfl, hTd.cell 3 rfl, hTd.cell 4 rfl, hAd.cell 9 rfl⟩
 have HSE : Hid (w5.cell? ⟨T, 0, none⟩ = some (.int .i64 9) ∧ w5.cell? ⟨T, 3, none⟩ = some (.int .i64 tn) ∧ w5.cell? ⟨T, 4, none⟩ = some (.string ts) ∧ w5.cell? ⟨A, 9, none⟩ = some (.int .i64 1)) := ⟨(hTd.keep hk5 (by omega)).cell 0 rfl, (hTd.keep hk5 (by omega)).cell 3 rfl, (hTd.keep hk5 (by omega)).cell 4 rfl, (hAd.keep hk5 (by omega)).cell 9 rfl⟩
 have HTH : Hid (w3.drew.there R 0 6) := hRd.there (Nat.le_refl _)
 have HINF : Hid ((Try.prog.info? 25).map (·.size) = some 6) := by show _ = _; kernel_rfl
 have HW5 := Lib.hid hw5
 have d0 := hR5.cell 0 rfl
 have d1 := hR5.cell 1 rfl
 have d2 := hR5.cell 2 rfl
 have d3 := hR5.cell 3 rfl
 have d4 := hR5.cell 4 rfl
 have d5 := hR5.cell 5 rfl
 clear hb1 hb2 hb3 hs1 hs2 hs3 hT3 hR3 hA3 hRd hTd hAd hk5 hR5 hw5
 go_enter Try.func41, Try.ntmps41
 go_wp2
 refine wp_region_noPanic ?_
 refine wp_region_held_drew (S := fun W => W.cell? ⟨T, 0, none⟩ = some (.int .i64 9) ∧ W.cell? ⟨T, 3, none⟩ = some (.int .i64 tn) ∧ W.cell? ⟨T, 4, none⟩ = some (.string ts) ∧ W.cell? ⟨A, 9, none⟩ = some (.int .i64 1)) (by kernel_rfl) HS0 (fun hHeld => ?_)
 refine wpAnyH_take (i := 0) (oi := ⟨_, _, _, _, _, _⟩) (v := ?_) rfl (by kernel_rfl) (by kernel_rfl) (by kernel_rfl) (fun _ _ _ h => h) (Or.inl ⟨by rfl, ?_⟩) (by assumption) ?_
 rotate_left
 ·intro w hSw
  clear hSw
  go_simp
  try with_reducible rfl
 simp only [Act.put, List.setIfInBounds_toArray, List.set_cons_zero, List.set_cons_succ]
 refine wpAnyH_take (i := 4) (oi := ⟨_, _, _, _, _, _⟩) (v := ?_) rfl (by kernel_rfl) (by kernel_rfl) (by kernel_rfl) (fun _ _ _ h => h) (Or.inl ⟨by rfl, ?_⟩) (by assumption) ?_
 rotate_left
 ·intro w hSw
  clear hSw
  go_simp
  try with_reducible rfl
 simp only [Act.put, List.setIfInBounds_toArray, List.set_cons_zero, List.set_cons_succ]
 refine wpAnyH_take (i := 6) (oi := ⟨_, _, _, _, _, _⟩) (v := ?_) rfl (by kernel_rfl) (by kernel_rfl) (by kernel_rfl) (fun _ _ _ h => h) (Or.inl ⟨by rfl, ?_⟩) (by assumption) ?_
 rotate_left
 ·intro w hSw
  clear hSw
  go_simp
  try with_reducible rfl
 simp only [Act.put, List.setIfInBounds_toArray, List.set_cons_zero, List.set_cons_succ]
 refine wpAnyH_take (i := 1) (oi := ⟨_, _, _, _, _, _⟩) (v := ?_) rfl (by kernel_rfl) (by kernel_rfl) (by kernel_rfl) (fun _ _ _ h => h) (Or.inl ⟨by rfl, ?_⟩) (by assumption) ?_
 rotate_left
 ·intro w hSw
  obtain ⟨s0, s1, s2, s3⟩ := hSw
  go_simp
  try with_reducible rfl
 simp only [Act.put, List.setIfInBounds_toArray, List.set_cons_zero, List.set_cons_succ]
 refine wpAnyH_take (i := 5) (oi := ⟨_, _, _, _, _, _⟩) (v := ?_) rfl (by kernel_rfl) (by kernel_rfl) (by kernel_rfl) (fun _ _ _ h => h) (Or.inl ⟨by rfl, ?_⟩) (by assumption) ?_
 rotate_left
 ·intro w hSw
  obtain ⟨s0, s1, s2, s3⟩ := hSw
  go_simp
  try with_reducible rfl
 simp only [Act.put, List.setIfInBounds_toArray, List.set_cons_zero, List.set_cons_succ]
 refine wpAnyH_take (i := 7) (oi := ⟨_, _, _, _, _, _⟩) (v := ?_) rfl (by kernel_rfl) (by kernel_rfl) (by kernel_rfl) (fun _ _ _ h => h) (Or.inl ⟨by rfl, ?_⟩) (by assumption) ?_
 rotate_left
 ·intro w hSw
  obtain ⟨s0, s1, s2, s3⟩ := hSw
  go_simp
  try with_reducible rfl
 simp only [Act.put, List.setIfInBounds_toArray, List.set_cons_zero, List.set_cons_succ]
 refine wpAnyH_take (i := 2) (oi := ⟨_, _, _, _, _, _⟩) (v := ?_) rfl (by kernel_rfl) (by kernel_rfl) (by kernel_rfl) (fun _ _ _ h => h) (Or.inl ⟨by rfl, ?_⟩) (by assumption) ?_
 rotate_left
 ·intro w hSw
  clear hSw
  go_simp
  try with_reducible rfl
 simp only [Act.put, List.setIfInBounds_toArray, List.set_cons_zero, List.set_cons_succ]
 refine wpAnyH_take (i := 3) (oi := ⟨_, _, _, _, _, _⟩) (v := ?_) rfl (by kernel_rfl) (by kernel_rfl) (by kernel_rfl) (fun _ _ _ h => h) (Or.inl ⟨by rfl, ?_⟩) (by assumption) ?_
 rotate_left
 ·intro w hSw
  obtain ⟨s0, s1, s2, s3⟩ := hSw
  go_simp
  try with_reducible rfl
 simp only [Act.put, List.setIfInBounds_toArray, List.set_cons_zero, List.set_cons_succ]
 refine wpAnyH_take (i := 8) (oi := ⟨_, _, _, _, _, _⟩) (v := ?_) rfl (by kernel_rfl) (by kernel_rfl) (by kernel_rfl) (fun _ _ _ h => h) (Or.inl ⟨by rfl, ?_⟩) (by assumption) ?_
 rotate_left
 ·intro w hSw
  clear hSw
  go_simp
  try with_reducible rfl
 simp only [Act.put, List.setIfInBounds_toArray, List.set_cons_zero, List.set_cons_succ]
 refine wpAnyH_ready (rs := [9]) (by kernel_rfl) (by simp) ?_
 refine AllReadyH.cons (o := ⟨_, _, _, _, _, _⟩) rfl (fun K hK => ?_) AllReadyH.nil
 refine wp_store_mid _ _ _ rfl R 0 #[.int .i64 1, .int .i64 tn, .string ts, .slice none 0 0, .slice none 0 0, .slice none 0 0] rfl rfl HTH.out HINF.out (by simp [Value.oneCell']) ?_
 rw [setCells6, HW5.out]
 refine hK.out _ _ ?_ (fun hHeld => ?_)
 ·exact HSE.out
 clear hK K
 try simp only [Act.put]
 refine wpAnyH_done (by kernel_rfl) ?_ _
 refine NoPanic.normal ?_
 go_wp2
 refine bodyPost_ret (v := .agg #[.int .i64 1, .int .i64 tn, .string ts, .slice none 0 0, .slice none 0 0, .slice none 0 0]) (by simp [results, Try.results41, go_sem, *]) rfl ?_
 exact ⟨rfl, HEND.out⟩
set_option maxRecDepth 100000 in
set_option maxHeartbeats 8000000 in
theorem leaf_10 (P : Nat) (tn ta tz : Int) (ts : ByteArray) (w : World) :
  Calls Try.prog 41 #[.pointer (some ⟨P, 0, none⟩), .agg #[.int .i64 10, .int .i64 ta, .int .i64 tz, .int .i64 tn, .string ts]] w fun e w' => e = .returned (.agg #[.int .i64 2, .int .i64 tn, .string ts, .slice none 0 0, .slice none 0 0, .slice none 0 0]) ∧ Below w.heap.size w w' := by
 obtain ⟨w1, hw1⟩ : ∃ w1, w.alloc (.cells #[.int .i64 10, .int .i64 ta, .int .i64 tz, .int .i64 tn, .string ts] 47) = w1 := ⟨_, rfl⟩
 obtain ⟨w2, hw2⟩ : ∃ w2, w1.alloc (.cells #[.int .i64 0, .int .i64 0, .string ⟨#[]⟩, .slice none 0 0, .slice none 0 0, .slice none 0 0] 25) = w2 := ⟨_, rfl⟩
 obtain ⟨w3, hw3⟩ : ∃ w3, w2.alloc (.cells #[.int .i64 0, .int .i64 0, .int .i64 0, .int .i64 0, .int .i64 0, .int .i64 0, .int .i64 0, .int .i64 0, .int .i64 0, .int .i64 1, .int .i64 2, .int .i64 3, .int .i64 4, .int .i64 5] 107) = w3 := ⟨_, rfl⟩
 obtain ⟨hb1, hs1⟩ := new_below hw1
 obtain ⟨hb2, hs2⟩ := new_below hw2
 obtain ⟨hb3, hs3⟩ := new_below hw3
 have hT3 := ((Hp.new hw1).below hb2).below hb3
 have hR3 := (Hp.new hw2).below hb3
 have hA3 := Hp.new hw3
 obtain ⟨T, hT⟩ : ∃ T, w.heap.size = T := ⟨_, rfl⟩
 obtain ⟨R, hR⟩ : ∃ R, w1.heap.size = R := ⟨_, rfl⟩
 obtain ⟨A, hA⟩ : ∃ A, w2.heap.size = A := ⟨_, rfl⟩
 rw [hT] at hT3 hs1
 rw [hR] at hR3 hs1 hs2
 rw [hA] at hA3 hs2 hs3
 obtain ⟨w5, hw5⟩ : ∃ w5, set6 w3.drew R (.int .i64 2) (.int .i64 tn) (.string ts) (.slice none 0 0) (.slice none 0 0) (.slice none 0 0) = w5 := ⟨_, rfl⟩
 have hRd : Hp w3.drew R #[.int .i64 0, .int .i64 0, .string ⟨#[]⟩, .slice none 0 0, .slice none 0 0, .slice none 0 0] 25 := hR3
 have hTd : Hp w3.drew T _ _ := hT3
 have hAd : Hp w3.drew A _ _ := hA3
 have hk5 : Keep (fun k => k = R) w3.drew w5 := by rw [← hw5]; exact set6_keep _ _ _ _ _ _ _ _
 have hR5 : Hp w5 R #[.int .i64 2, .int .i64 tn, .string ts, .slice none 0 0, .slice none 0 0, .slice none 0 0] 25 := by rw [← hw5]; exact hRd.set6 _ _ _ _ _ _
 have HEND : Hid (Below w.heap.size w w5) := by
  have hb := hb1.trans ((hb2.trans (hb3.mono hb2.size)).mono hb1.size)
  exact hb.drew.trans (hk5.to_below (fun k e => by omega) (Nat.le_trans hb.size (Nat.le_refl _)))
 have HS0 : w3.drew.cell? ⟨T, 0, none⟩ = some (.int .i64 10) ∧ w3.drew.cell? ⟨T, 3, none⟩ = some (.int .i64 tn) ∧ w3.drew.cell? ⟨T, 4, none⟩ = some (.string ts) ∧ w3.drew.cell? ⟨A, 10, none⟩ = some (.int .i64 2) := ⟨hTd.cell 0 rfl, hTd.cell 3 rfl, hTd.cell 4 rfl, hAd.cell 10 rfl⟩
 have HSE : Hid (w5.cell? ⟨T, 0, none⟩ = some (.int .i64 10) ∧ w5.cell? ⟨T, 3, none⟩ = some (.int .i64 tn) ∧ w5.cell? ⟨T, 4, none⟩ = some (.string ts) ∧ w5.cell? ⟨A, 10, none⟩ = some (.int .i64 2)) := ⟨(hTd.keep hk5 (by omega)).cell 0 rfl, (hTd.keep hk5 (by omega)).cell 3 rfl, (hTd.keep hk5 (by omega)).cell 4 rfl, (hAd.keep hk5 (by omega)).cell 10 rfl⟩
 have HTH : Hid (w3.drew.there R 0 6) := hRd.there (Nat.le_refl _)
 have HINF : Hid ((Try.prog.info? 25).map (·.size) = some 6) := by show _ = _; kernel_rfl
 have HW5 := Lib.hid hw5
 have d0 := hR5.cell 0 rfl
 have d1 := hR5.cell 1 rfl
 have d2 := hR5.cell 2 rfl
 have d3 := hR5.cell 3 rfl
 have d4 := hR5.cell 4 rfl
 have d5 := hR5.cell 5 rfl
 clear hb1 hb2 hb3 hs1 hs2 hs3 hT3 hR3 hA3 hRd hTd hAd hk5 hR5 hw5
 go_enter Try.func41, Try.ntmps41
 go_wp2
 refine wp_region_noPanic ?_
 refine wp_region_held_drew (S := fun W => W.cell? ⟨T, 0, none⟩ = some (.int .i64 10) ∧ W.cell? ⟨T, 3, none⟩ = some (.int .i64 tn) ∧ W.cell? ⟨T, 4, none⟩ = some (.string ts) ∧ W.cell? ⟨A, 10, none⟩ = some (.int .i64 2)) (by kernel_rfl) HS0 (fun hHeld => ?_)
 refine wpAnyH_take (i := 0) (oi := ⟨_, _, _, _, _, _⟩) (v := ?_) rfl (by kernel_rfl) (by kernel_rfl) (by kernel_rfl) (fun _ _ _ h => h) (Or.inl ⟨by rfl, ?_⟩) (by assumption) ?_
 rotate_left
 ·intro w hSw
  clear hSw
  go_simp
  try with_reducible rfl
 simp only [Act.put, List.setIfInBounds_toArray, List.set_cons_zero, List.set_cons_succ]
 refine wpAnyH_take (i := 4) (oi := ⟨_, _, _, _, _, _⟩) (v := ?_) rfl (by kernel_rfl) (by kernel_rfl) (by kernel_rfl) (fun _ _ _ h => h) (Or.inl ⟨by rfl, ?_⟩) (by assumption) ?_
 rotate_left
 ·intro w hSw
  clear hSw
  go_simp
  try with_reducible rfl
 simp only [Act.put, List.setIfInBounds_toArray, List.set_cons_zero, List.set_cons_succ]
 refine wpAnyH_take (i := 6) (oi := ⟨_, _, _, _, _, _⟩) (v := ?_) rfl (by kernel_rfl) (by kernel_rfl) (by kernel_rfl) (fun _ _ _ h => h) (Or.inl ⟨by rfl, ?_⟩) (by assumption) ?_
 rotate_left
 ·intro w hSw
  clear hSw
  go_simp
  try with_reducible rfl
 simp only [Act.put, List.setIfInBounds_toArray, List.set_cons_zero, List.set_cons_succ]
 refine wpAnyH_take (i := 1) (oi := ⟨_, _, _, _, _, _⟩) (v := ?_) rfl (by kernel_rfl) (by kernel_rfl) (by kernel_rfl) (fun _ _ _ h => h) (Or.inl ⟨by rfl, ?_⟩) (by assumption) ?_
 rotate_left
 ·intro w hSw
  obtain ⟨s0, s1, s2, s3⟩ := hSw
  go_simp
  try with_reducible rfl
 simp only [Act.put, List.setIfInBounds_toArray, List.set_cons_zero, List.set_cons_succ]
 refine wpAnyH_take (i := 5) (oi := ⟨_, _, _, _, _, _⟩) (v := ?_) rfl (by kernel_rfl) (by kernel_rfl) (by kernel_rfl) (fun _ _ _ h => h) (Or.inl ⟨by rfl, ?_⟩) (by assumption) ?_
 rotate_left
 ·intro w hSw
  obtain ⟨s0, s1, s2, s3⟩ := hSw
  go_simp
  try with_reducible rfl
 simp only [Act.put, List.setIfInBounds_toArray, List.set_cons_zero, List.set_cons_succ]
 refine wpAnyH_take (i := 7) (oi := ⟨_, _, _, _, _, _⟩) (v := ?_) rfl (by kernel_rfl) (by kernel_rfl) (by kernel_rfl) (fun _ _ _ h => h) (Or.inl ⟨by rfl, ?_⟩) (by assumption) ?_
 rotate_left
 ·intro w hSw
  obtain ⟨s0, s1, s2, s3⟩ := hSw
  go_simp
  try with_reducible rfl
 simp only [Act.put, List.setIfInBounds_toArray, List.set_cons_zero, List.set_cons_succ]
 refine wpAnyH_take (i := 2) (oi := ⟨_, _, _, _, _, _⟩) (v := ?_) rfl (by kernel_rfl) (by kernel_rfl) (by kernel_rfl) (fun _ _ _ h => h) (Or.inl ⟨by rfl, ?_⟩) (by assumption) ?_
 rotate_left
 ·intro w hSw
  clear hSw
  go_simp
  try with_reducible rfl
 simp only [Act.put, List.setIfInBounds_toArray, List.set_cons_zero, List.set_cons_succ]
 refine wpAnyH_take (i := 3) (oi := ⟨_, _, _, _, _, _⟩) (v := ?_) rfl (by kernel_rfl) (by kernel_rfl) (by kernel_rfl) (fun _ _ _ h => h) (Or.inl ⟨by rfl, ?_⟩) (by assumption) ?_
 rotate_left
 ·intro w hSw
  obtain ⟨s0, s1, s2, s3⟩ := hSw
  go_simp
  try with_reducible rfl
 simp only [Act.put, List.setIfInBounds_toArray, List.set_cons_zero, List.set_cons_succ]
 refine wpAnyH_take (i := 8) (oi := ⟨_, _, _, _, _, _⟩) (v := ?_) rfl (by kernel_rfl) (by kernel_rfl) (by kernel_rfl) (fun _ _ _ h => h) (Or.inl ⟨by rfl, ?_⟩) (by assumption) ?_
 rotate_left
 ·intro w hSw
  clear hSw
  go_simp
  try with_reducible rfl
 simp only [Act.put, List.setIfInBounds_toArray, List.set_cons_zero, List.set_cons_succ]
 refine wpAnyH_ready (rs := [9]) (by kernel_rfl) (by simp) ?_
 refine AllReadyH.cons (o := ⟨_, _, _, _, _, _⟩) rfl (fun K hK => ?_) AllReadyH.nil
 refine wp_store_mid _ _ _ rfl R 0 #[.int .i64 2, .int .i64 tn, .string ts, .slice none 0 0, .slice none 0 0, .slice none 0 0] rfl rfl HTH.out HINF.out (by simp [Value.oneCell']) ?_
 rw [setCells6, HW5.out]
 refine hK.out _ _ ?_ (fun hHeld => ?_)
 ·exact HSE.out
 clear hK K
 try simp only [Act.put]
 refine wpAnyH_done (by kernel_rfl) ?_ _
 refine NoPanic.normal ?_
 go_wp2
 refine bodyPost_ret (v := .agg #[.int .i64 2, .int .i64 tn, .string ts, .slice none 0 0, .slice none 0 0, .slice none 0 0]) (by simp [results, Try.results41, go_sem, *]) rfl ?_
 exact ⟨rfl, HEND.out⟩
set_option maxRecDepth 100000 in
set_option maxHeartbeats 8000000 in
theorem leaf_11 (P : Nat) (tn ta tz : Int) (ts : ByteArray) (w : World) :
  Calls Try.prog 41 #[.pointer (some ⟨P, 0, none⟩), .agg #[.int .i64 11, .int .i64 ta, .int .i64 tz, .int .i64 tn, .string ts]] w fun e w' => e = .returned (.agg #[.int .i64 3, .int .i64 tn, .string ts, .slice none 0 0, .slice none 0 0, .slice none 0 0]) ∧ Below w.heap.size w w' := by
 obtain ⟨w1, hw1⟩ : ∃ w1, w.alloc (.cells #[.int .i64 11, .int .i64 ta, .int .i64 tz, .int .i64 tn, .string ts] 47) = w1 := ⟨_, rfl⟩
 obtain ⟨w2, hw2⟩ : ∃ w2, w1.alloc (.cells #[.int .i64 0, .int .i64 0, .string ⟨#[]⟩, .slice none 0 0, .slice none 0 0, .slice none 0 0] 25) = w2 := ⟨_, rfl⟩
 obtain ⟨w3, hw3⟩ : ∃ w3, w2.alloc (.cells #[.int .i64 0, .int .i64 0, .int .i64 0, .int .i64 0, .int .i64 0, .int .i64 0, .int .i64 0, .int .i64 0, .int .i64 0, .int .i64 1, .int .i64 2, .int .i64 3, .int .i64 4, .int .i64 5] 107) = w3 := ⟨_, rfl⟩
 obtain ⟨hb1, hs1⟩ := new_below hw1
 obtain ⟨hb2, hs2⟩ := new_below hw2
 obtain ⟨hb3, hs3⟩ := new_below hw3
 have hT3 := ((Hp.new hw1).below hb2).below hb3
 have hR3 := (Hp.new hw2).below hb3
 have hA3 := Hp.new hw3
 obtain ⟨T, hT⟩ : ∃ T, w.heap.size = T := ⟨_, rfl⟩
 obtain ⟨R, hR⟩ : ∃ R, w1.heap.size = R := ⟨_, rfl⟩
 obtain ⟨A, hA⟩ : ∃ A, w2.heap.size = A := ⟨_, rfl⟩
 rw [hT] at hT3 hs1
 rw [hR] at hR3 hs1 hs2
 rw [hA] at hA3 hs2 hs3
 obtain ⟨w5, hw5⟩ : ∃ w5, set6 w3.drew R (.int .i64 3) (.int .i64 tn) (.string ts) (.slice none 0 0) (.slice none 0 0) (.slice none 0 0) = w5 := ⟨_, rfl⟩
 have hRd : Hp w3.drew R #[.int .i64 0, .int .i64 0, .string ⟨#[]⟩, .slice none 0 0, .slice none 0 0, .slice none 0 0] 25 := hR3
 have hTd : Hp w3.drew T _ _ := hT3
 have hAd : Hp w3.drew A _ _ := hA3
 have hk5 : Keep (fun k => k = R) w3.drew w5 := by rw [← hw5]; exact set6_keep _ _ _ _ _ _ _ _
 have hR5 : Hp w5 R #[.int .i64 3, .int .i64 tn, .string ts, .slice none 0 0, .slice none 0 0, .slice none 0 0] 25 := by rw [← hw5]; exact hRd.set6 _ _ _ _ _ _
 have HEND : Hid (Below w.heap.size w w5) := by
  have hb := hb1.trans ((hb2.trans (hb3.mono hb2.size)).mono hb1.size)
  exact hb.drew.trans (hk5.to_below (fun k e => by omega) (Nat.le_trans hb.size (Nat.le_refl _)))
 have HS0 : w3.drew.cell? ⟨T, 0, none⟩ = some (.int .i64 11) ∧ w3.drew.cell? ⟨T, 3, none⟩ = some (.int .i64 tn) ∧ w3.drew.cell? ⟨T, 4, none⟩ = some (.string ts) ∧ w3.drew.cell? ⟨A, 11, none⟩ = some (.int .i64 3) := ⟨hTd.cell 0 rfl, hTd.cell 3 rfl, hTd.cell 4 rfl, hAd.cell 11 rfl⟩
 have HSE : Hid (w5.cell? ⟨T, 0, none⟩ = some (.int .i64 11) ∧ w5.cell? ⟨T, 3, none⟩ = some (.int .i64 tn) ∧ w5.cell? ⟨T, 4, none⟩ = some (.string ts) ∧ w5.cell? ⟨A, 11, none⟩ = some (.int .i64 3)) := ⟨(hTd.keep hk5 (by omega)).cell 0 rfl, (hTd.keep hk5 (by omega)).cell 3 rfl, (hTd.keep hk5 (by omega)).cell 4 rfl, (hAd.keep hk5 (by omega)).cell 11 rfl⟩
 have HTH : Hid (w3.drew.there R 0 6) := hRd.there (Nat.le_refl _)
 have HINF : Hid ((Try.prog.info? 25).map (·.size) = some 6) := by show _ = _; kernel_rfl
 have HW5 := Lib.hid hw5
 have d0 := hR5.cell 0 rfl
 have d1 := hR5.cell 1 rfl
 have d2 := hR5.cell 2 rfl
 have d3 := hR5.cell 3 rfl
 have d4 := hR5.cell 4 rfl
 have d5 := hR5.cell 5 rfl
 clear hb1 hb2 hb3 hs1 hs2 hs3 hT3 hR3 hA3 hRd hTd hAd hk5 hR5 hw5
 go_enter Try.func41, Try.ntmps41
 go_wp2
 refine wp_region_noPanic ?_
 refine wp_region_held_drew (S := fun W => W.cell? ⟨T, 0, none⟩ = some (.int .i64 11) ∧ W.cell? ⟨T, 3, none⟩ = some (.int .i64 tn) ∧ W.cell? ⟨T, 4, none⟩ = some (.string ts) ∧ W.cell? ⟨A, 11, none⟩ = some (.int .i64 3)) (by kernel_rfl) HS0 (fun hHeld => ?_)
 refine wpAnyH_take (i := 0) (oi := ⟨_, _, _, _, _, _⟩) (v := ?_) rfl (by kernel_rfl) (by kernel_rfl) (by kernel_rfl) (fun _ _ _ h => h) (Or.inl ⟨by rfl, ?_⟩) (by assumption) ?_
 rotate_left
 ·intro w hSw
  clear hSw
  go_simp
  try with_reducible rfl
 simp only [Act.put, List.setIfInBounds_toArray, List.set_cons_zero, List.set_cons_succ]
 refine wpAnyH_take (i := 4) (oi := ⟨_, _, _, _, _, _⟩) (v := ?_) rfl (by kernel_rfl) (by kernel_rfl) (by kernel_rfl) (fun _ _ _ h => h) (Or.inl ⟨by rfl, ?_⟩) (by assumption) ?_
 rotate_left
 ·intro w hSw
  clear hSw
  go_simp
  try with_reducible rfl
 simp only [Act.put, List.setIfInBounds_toArray, List.set_cons_zero, List.set_cons_succ]
 refine wpAnyH_take (i := 6) (oi := ⟨_, _, _, _, _, _⟩) (v := ?_) rfl (by kernel_rfl) (by kernel_rfl) (by kernel_rfl) (fun _ _ _ h => h) (Or.inl ⟨by rfl, ?_⟩) (by assumption) ?_
 rotate_left
 ·intro w hSw
  clear hSw
  go_simp
  try with_reducible rfl
 simp only [Act.put, List.setIfInBounds_toArray, List.set_cons_zero, List.set_cons_succ]
 refine wpAnyH_take (i := 1) (oi := ⟨_, _, _, _, _, _⟩) (v := ?_) rfl (by kernel_rfl) (by kernel_rfl) (by kernel_rfl) (fun _ _ _ h => h) (Or.inl ⟨by rfl, ?_⟩) (by assumption) ?_
 rotate_left
 ·intro w hSw
  obtain ⟨s0, s1, s2, s3⟩ := hSw
  go_simp
  try with_reducible rfl
 simp only [Act.put, List.setIfInBounds_toArray, List.set_cons_zero, List.set_cons_succ]
 refine wpAnyH_take (i := 5) (oi := ⟨_, _, _, _, _, _⟩) (v := ?_) rfl (by kernel_rfl) (by kernel_rfl) (by kernel_rfl) (fun _ _ _ h => h) (Or.inl ⟨by rfl, ?_⟩) (by assumption) ?_
 rotate_left
 ·intro w hSw
  obtain ⟨s0, s1, s2, s3⟩ := hSw
  go_simp
  try with_reducible rfl
 simp only [Act.put, List.setIfInBounds_toArray, List.set_cons_zero, List.set_cons_succ]
 refine wpAnyH_take (i := 7) (oi := ⟨_, _, _, _, _, _⟩) (v := ?_) rfl (by kernel_rfl) (by kernel_rfl) (by kernel_rfl) (fun _ _ _ h => h) (Or.inl ⟨by rfl, ?_⟩) (by assumption) ?_
 rotate_left
 ·intro w hSw
  obtain ⟨s0, s1, s2, s3⟩ := hSw
  go_simp
  try with_reducible rfl
 simp only [Act.put, List.setIfInBounds_toArray, List.set_cons_zero, List.set_cons_succ]
 refine wpAnyH_take (i := 2) (oi := ⟨_, _, _, _, _, _⟩) (v := ?_) rfl (by kernel_rfl) (by kernel_rfl) (by kernel_rfl) (fun _ _ _ h => h) (Or.inl ⟨by rfl, ?_⟩) (by assumption) ?_
 rotate_left
 ·intro w hSw
  clear hSw
  go_simp
  try with_reducible rfl
 simp only [Act.put, List.setIfInBounds_toArray, List.set_cons_zero, List.set_cons_succ]
 refine wpAnyH_take (i := 3) (oi := ⟨_, _, _, _, _, _⟩) (v := ?_) rfl (by kernel_rfl) (by kernel_rfl) (by kernel_rfl) (fun _ _ _ h => h) (Or.inl ⟨by rfl, ?_⟩) (by assumption) ?_
 rotate_left
 ·intro w hSw
  obtain ⟨s0, s1, s2, s3⟩ := hSw
  go_simp
  try with_reducible rfl
 simp only [Act.put, List.setIfInBounds_toArray, List.set_cons_zero, List.set_cons_succ]
 refine wpAnyH_take (i := 8) (oi := ⟨_, _, _, _, _, _⟩) (v := ?_) rfl (by kernel_rfl) (by kernel_rfl) (by kernel_rfl) (fun _ _ _ h => h) (Or.inl ⟨by rfl, ?_⟩) (by assumption) ?_
 rotate_left
 ·intro w hSw
  clear hSw
  go_simp
  try with_reducible rfl
 simp only [Act.put, List.setIfInBounds_toArray, List.set_cons_zero, List.set_cons_succ]
 refine wpAnyH_ready (rs := [9]) (by kernel_rfl) (by simp) ?_
 refine AllReadyH.cons (o := ⟨_, _, _, _, _, _⟩) rfl (fun K hK => ?_) AllReadyH.nil
 refine wp_store_mid _ _ _ rfl R 0 #[.int .i64 3, .int .i64 tn, .string ts, .slice none 0 0, .slice none 0 0, .slice none 0 0] rfl rfl HTH.out HINF.out (by simp [Value.oneCell']) ?_
 rw [setCells6, HW5.out]
 refine hK.out _ _ ?_ (fun hHeld => ?_)
 ·exact HSE.out
 clear hK K
 try simp only [Act.put]
 refine wpAnyH_done (by kernel_rfl) ?_ _
 refine NoPanic.normal ?_
 go_wp2
 refine bodyPost_ret (v := .agg #[.int .i64 3, .int .i64 tn, .string ts, .slice none 0 0, .slice none 0 0, .slice none 0 0]) (by simp [results, Try.results41, go_sem, *]) rfl ?_
 exact ⟨rfl, HEND.out⟩
set_option maxRecDepth 100000 in
set_option maxHeartbeats 8000000 in
theorem leaf_12 (P : Nat) (tn ta tz : Int) (ts : ByteArray) (w : World) :
  Calls Try.prog 41 #[.pointer (some ⟨P, 0, none⟩), .agg #[.int .i64 12, .int .i64 ta, .int .i64 tz, .int .i64 tn, .string ts]] w fun e w' => e = .returned (.agg #[.int .i64 4, .int .i64 tn, .string ts, .slice none 0 0, .slice none 0 0, .slice none 0 0]) ∧ Below w.heap.size w w' := by
 obtain ⟨w1, hw1⟩ : ∃ w1, w.alloc (.cells #[.int .i64 12, .int .i64 ta, .int .i64 tz, .int .i64 tn, .string ts] 47) = w1 := ⟨_, rfl⟩
 obtain ⟨w2, hw2⟩ : ∃ w2, w1.alloc (.cells #[.int .i64 0, .int .i64 0, .string ⟨#[]⟩, .slice none 0 0, .slice none 0 0, .slice none 0 0] 25) = w2 := ⟨_, rfl⟩
 obtain ⟨w3, hw3⟩ : ∃ w3, w2.alloc (.cells #[.int .i64 0, .int .i64 0, .int .i64 0, .int .i64 0, .int .i64 0, .int .i64 0, .int .i64 0, .int .i64 0, .int .i64 0, .int .i64 1, .int .i64 2, .int .i64 3, .int .i64 4, .int .i64 5] 107) = w3 := ⟨_, rfl⟩
 obtain ⟨hb1, hs1⟩ := new_below hw1
 obtain ⟨hb2, hs2⟩ := new_below hw2
 obtain ⟨hb3, hs3⟩ := new_below hw3
 have hT3 := ((Hp.new hw1).below hb2).below hb3
 have hR3 := (Hp.new hw2).below hb3
 have hA3 := Hp.new hw3
 obtain ⟨T, hT⟩ : ∃ T, w.heap.size = T := ⟨_, rfl⟩
 obtain ⟨R, hR⟩ : ∃ R, w1.heap.size = R := ⟨_, rfl⟩
 obtain ⟨A, hA⟩ : ∃ A, w2.heap.size = A := ⟨_, rfl⟩
 rw [hT] at hT3 hs1
 rw [hR] at hR3 hs1 hs2
 rw [hA] at hA3 hs2 hs3
 obtain ⟨w5, hw5⟩ : ∃ w5, set6 w3.drew R (.int .i64 4) (.int .i64 tn) (.string ts) (.slice none 0 0) (.slice none 0 0) (.slice none 0 0) = w5 := ⟨_, rfl⟩
 have hRd : Hp w3.drew R #[.int .i64 0, .int .i64 0, .string ⟨#[]⟩, .slice none 0 0, .slice none 0 0, .slice none 0 0] 25 := hR3
 have hTd : Hp w3.drew T _ _ := hT3
 have hAd : Hp w3.drew A _ _ := hA3
 have hk5 : Keep (fun k => k = R) w3.drew w5 := by rw [← hw5]; exact set6_keep _ _ _ _ _ _ _ _
 have hR5 : Hp w5 R #[.int .i64 4, .int .i64 tn, .string ts, .slice none 0 0, .slice none 0 0, .slice none 0 0] 25 := by rw [← hw5]; exact hRd.set6 _ _ _ _ _ _
 have HEND : Hid (Below w.heap.size w w5) := by
  have hb := hb1.trans ((hb2.trans (hb3.mono hb2.size)).mono hb1.size)
  exact hb.drew.trans (hk5.to_below (fun k e => by omega) (Nat.le_trans hb.size (Nat.le_refl _)))
 have HS0 : w3.drew.cell? ⟨T, 0, none⟩ = some (.int .i64 12) ∧ w3.drew.cell? ⟨T, 3, none⟩ = some (.int .i64 tn) ∧ w3.drew.cell? ⟨T, 4, none⟩ = some (.string ts) ∧ w3.drew.cell? ⟨A, 12, none⟩ = some (.int .i64 4) := ⟨hTd.cell 0 rfl, hTd.cell 3 rfl, hTd.cell 4 rfl, hAd.cell 12 rfl⟩
 have HSE : Hid (w5.cell? ⟨T, 0, none⟩ = some (.int .i64 12) ∧ w5.cell? ⟨T, 3, none⟩ = some (.int .i64 tn) ∧ w5.cell? ⟨T, 4, none⟩ = some (.string ts) ∧ w5.cell? ⟨A, 12, none⟩ = some (.int .i64 4)) := ⟨(hTd.keep hk5 (by omega)).cell 0 rfl, (hTd.keep hk5 (by omega)).cell 3 rfl, (hTd.keep hk5 (by omega)).cell 4 rfl, (hAd.keep hk5 (by omega)).cell 12 rfl⟩
 have HTH : Hid (w3.drew.there R 0 6) := hRd.there (Nat.le_refl _)
 have HINF : Hid ((Try.prog.info? 25).map (·.size) = some 6) := by show _ = _; kernel_rfl
 have HW5 := Lib.hid hw5
 have d0 := hR5.cell 0 rfl
 have d1 := hR5.cell 1 rfl
 have d2 := hR5.cell 2 rfl
 have d3 := hR5.cell 3 rfl
 have d4 := hR5.cell 4 rfl
 have d5 := hR5.cell 5 rfl
 clear hb1 hb2 hb3 hs1 hs2 hs3 hT3 hR3 hA3 hRd hTd hAd hk5 hR5 hw5
 go_enter Try.func41, Try.ntmps41
 go_wp2
 refine wp_region_noPanic ?_
 refine wp_region_held_drew (S := fun W => W.cell? ⟨T, 0, none⟩ = some (.int .i64 12) ∧ W.cell? ⟨T, 3, none⟩ = some (.int .i64 tn) ∧ W.cell? ⟨T, 4, none⟩ = some (.string ts) ∧ W.cell? ⟨A, 12, none⟩ = some (.int .i64 4)) (by kernel_rfl) HS0 (fun hHeld => ?_)
 refine wpAnyH_take (i := 0) (oi := ⟨_, _, _, _, _, _⟩) (v := ?_) rfl (by kernel_rfl) (by kernel_rfl) (by kernel_rfl) (fun _ _ _ h => h) (Or.inl ⟨by rfl, ?_⟩) (by assumption) ?_
 rotate_left
 ·intro w hSw
  clear hSw
  go_simp
  try with_reducible rfl
 simp only [Act.put, List.setIfInBounds_toArray, List.set_cons_zero, List.set_cons_succ]
 refine wpAnyH_take (i := 4) (oi := ⟨_, _, _, _, _, _⟩) (v := ?_) rfl (by kernel_rfl) (by kernel_rfl) (by kernel_rfl) (fun _ _ _ h => h) (Or.inl ⟨by rfl, ?_⟩) (by assumption) ?_
 rotate_left
 ·intro w hSw
  clear hSw
  go_simp
  try with_reducible rfl
 simp only [Act.put, List.setIfInBounds_toArray, List.set_cons_zero, List.set_cons_succ]
 refine wpAnyH_take (i := 6) (oi := ⟨_, _, _, _, _, _⟩) (v := ?_) rfl (by kernel_rfl) (by kernel_rfl) (by kernel_rfl) (fun _ _ _ h => h) (Or.inl ⟨by rfl, ?_⟩) (by assumption) ?_
 rotate_left
 ·intro w hSw
  clear hSw
  go_simp
  try with_reducible rfl
 simp only [Act.put, List.setIfInBounds_toArray, List.set_cons_zero, List.set_cons_succ]
 refine wpAnyH_take (i := 1) (oi := ⟨_, _, _, _, _, _⟩) (v := ?_) rfl (by kernel_rfl) (by kernel_rfl) (by kernel_rfl) (fun _ _ _ h => h) (Or.inl ⟨by rfl, ?_⟩) (by assumption) ?_
 rotate_left
 ·intro w hSw
  obtain ⟨s0, s1, s2, s3⟩ := hSw
  go_simp
  try with_reducible rfl
 simp only [Act.put, List.setIfInBounds_toArray, List.set_cons_zero, List.set_cons_succ]
 refine wpAnyH_take (i := 5) (oi := ⟨_, _, _, _, _, _⟩) (v := ?_) rfl (by kernel_rfl) (by kernel_rfl) (by kernel_rfl) (fun _ _ _ h => h) (Or.inl ⟨by rfl, ?_⟩) (by assumption) ?_
 rotate_left
 ·intro w hSw
  obtain ⟨s0, s1, s2, s3⟩ := hSw
  go_simp
  try with_reducible rfl
 simp only [Act.put, List.setIfInBounds_toArray, List.set_cons_zero, List.set_cons_succ]
 refine wpAnyH_take (i := 7) (oi := ⟨_, _, _, _, _, _⟩) (v := ?_) rfl (by kernel_rfl) (by kernel_rfl) (by kernel_rfl) (fun _ _ _ h => h) (Or.inl ⟨by rfl, ?_⟩) (by assumption) ?_
 rotate_left
 ·intro w hSw
  obtain ⟨s0, s1, s2, s3⟩ := hSw
  go_simp
  try with_reducible rfl
 simp only [Act.put, List.setIfInBounds_toArray, List.set_cons_zero, List.set_cons_succ]
 refine wpAnyH_take (i := 2) (oi := ⟨_, _, _, _, _, _⟩) (v := ?_) rfl (by kernel_rfl) (by kernel_rfl) (by kernel_rfl) (fun _ _ _ h => h) (Or.inl ⟨by rfl, ?_⟩) (by assumption) ?_
 rotate_left
 ·intro w hSw
  clear hSw
  go_simp
  try with_reducible rfl
 simp only [Act.put, List.setIfInBounds_toArray, List.set_cons_zero, List.set_cons_succ]
 refine wpAnyH_take (i := 3) (oi := ⟨_, _, _, _, _, _⟩) (v := ?_) rfl (by kernel_rfl) (by kernel_rfl) (by kernel_rfl) (fun _ _ _ h => h) (Or.inl ⟨by rfl, ?_⟩) (by assumption) ?_
 rotate_left
 ·intro w hSw
  obtain ⟨s0, s1, s2, s3⟩ := hSw
  go_simp
  try with_reducible rfl
 simp only [Act.put, List.setIfInBounds_toArray, List.set_cons_zero, List.set_cons_succ]
 refine wpAnyH_take (i := 8) (oi := ⟨_, _, _, _, _, _⟩) (v := ?_) rfl (by kernel_rfl) (by kernel_rfl) (by kernel_rfl) (fun _ _ _ h => h) (Or.inl ⟨by rfl, ?_⟩) (by assumption) ?_
 rotate_left
 ·intro w hSw
  clear hSw
  go_simp
  try with_reducible rfl
 simp only [Act.put, List.setIfInBounds_toArray, List.set_cons_zero, List.set_cons_succ]
 refine wpAnyH_ready (rs := [9]) (by kernel_rfl) (by simp) ?_
 refine AllReadyH.cons (o := ⟨_, _, _, _, _, _⟩) rfl (fun K hK => ?_) AllReadyH.nil
 refine wp_store_mid _ _ _ rfl R 0 #[.int .i64 4, .int .i64 tn, .string ts, .slice none 0 0, .slice none 0 0, .slice none 0 0] rfl rfl HTH.out HINF.out (by simp [Value.oneCell']) ?_
 rw [setCells6, HW5.out]
 refine hK.out _ _ ?_ (fun hHeld => ?_)
 ·exact HSE.out
 clear hK K
 try simp only [Act.put]
 refine wpAnyH_done (by kernel_rfl) ?_ _
 refine NoPanic.normal ?_
 go_wp2
 refine bodyPost_ret (v := .agg #[.int .i64 4, .int .i64 tn, .string ts, .slice none 0 0, .slice none 0 0, .slice none 0 0]) (by simp [results, Try.results41, go_sem, *]) rfl ?_
 exact ⟨rfl, HEND.out⟩
set_option maxRecDepth 100000 in
set_option maxHeartbeats 8000000 in
theorem leaf_13 (P : Nat) (tn ta tz : Int) (ts : ByteArray) (w : World) :
  Calls Try.prog 41 #[.pointer (some ⟨P, 0, none⟩), .agg #[.int .i64 13, .int .i64 ta, .int .i64 tz, .int .i64 tn, .string ts]] w fun e w' => e = .returned (.agg #[.int .i64 5, .int .i64 tn, .string ts, .slice none 0 0, .slice none 0 0, .slice none 0 0]) ∧ Below w.heap.size w w' := by
 obtain ⟨w1, hw1⟩ : ∃ w1, w.alloc (.cells #[.int .i64 13, .int .i64 ta, .int .i64 tz, .int .i64 tn, .string ts] 47) = w1 := ⟨_, rfl⟩
 obtain ⟨w2, hw2⟩ : ∃ w2, w1.alloc (.cells #[.int .i64 0, .int .i64 0, .string ⟨#[]⟩, .slice none 0 0, .slice none 0 0, .slice none 0 0] 25) = w2 := ⟨_, rfl⟩
 obtain ⟨w3, hw3⟩ : ∃ w3, w2.alloc (.cells #[.int .i64 0, .int .i64 0, .int .i64 0, .int .i64 0, .int .i64 0, .int .i64 0, .int .i64 0, .int .i64 0, .int .i64 0, .int .i64 1, .int .i64 2, .int .i64 3, .int .i64 4, .int .i64 5] 107) = w3 := ⟨_, rfl⟩
 obtain ⟨hb1, hs1⟩ := new_below hw1
 obtain ⟨hb2, hs2⟩ := new_below hw2
 obtain ⟨hb3, hs3⟩ := new_below hw3
 have hT3 := ((Hp.new hw1).below hb2).below hb3
 have hR3 := (Hp.new hw2).below hb3
 have hA3 := Hp.new hw3
 obtain ⟨T, hT⟩ : ∃ T, w.heap.size = T := ⟨_, rfl⟩
 obtain ⟨R, hR⟩ : ∃ R, w1.heap.size = R := ⟨_, rfl⟩
 obtain ⟨A, hA⟩ : ∃ A, w2.heap.size = A := ⟨_, rfl⟩
 rw [hT] at hT3 hs1
 rw [hR] at hR3 hs1 hs2
 rw [hA] at hA3 hs2 hs3
 obtain ⟨w5, hw5⟩ : ∃ w5, set6 w3.drew R (.int .i64 5) (.int .i64 tn) (.string ts) (.slice none 0 0) (.slice none 0 0) (.slice none 0 0) = w5 := ⟨_, rfl⟩
 have hRd : Hp w3.drew R #[.int .i64 0, .int .i64 0, .string ⟨#[]⟩, .slice none 0 0, .slice none 0 0, .slice none 0 0] 25 := hR3
 have hTd : Hp w3.drew T _ _ := hT3
 have hAd : Hp w3.drew A _ _ := hA3
 have hk5 : Keep (fun k => k = R) w3.drew w5 := by rw [← hw5]; exact set6_keep _ _ _ _ _ _ _ _
 have hR5 : Hp w5 R #[.int .i64 5, .int .i64 tn, .string ts, .slice none 0 0, .slice none 0 0, .slice none 0 0] 25 := by rw [← hw5]; exact hRd.set6 _ _ _ _ _ _
 have HEND : Hid (Below w.heap.size w w5) := by
  have hb := hb1.trans ((hb2.trans (hb3.mono hb2.size)).mono hb1.size)
  exact hb.drew.trans (hk5.to_below (fun k e => by omega) (Nat.le_trans hb.size (Nat.le_refl _)))
 have HS0 : w3.drew.cell? ⟨T, 0, none⟩ = some (.int .i64 13) ∧ w3.drew.cell? ⟨T, 3, none⟩ = some (.int .i64 tn) ∧ w3.drew.cell? ⟨T, 4, none⟩ = some (.string ts) ∧ w3.drew.cell? ⟨A, 13, none⟩ = some (.int .i64 5) := ⟨hTd.cell 0 rfl, hTd.cell 3 rfl, hTd.cell 4 rfl, hAd.cell 13 rfl⟩
 have HSE : Hid (w5.cell? ⟨T, 0, none⟩ = some (.int .i64 13) ∧ w5.cell? ⟨T, 3, none⟩ = some (.int .i64 tn) ∧ w5.cell? ⟨T, 4, none⟩ = some (.string ts) ∧ w5.cell? ⟨A, 13, none⟩ = some (.int .i64 5)) := ⟨(hTd.keep hk5 (by omega)).cell 0 rfl, (hTd.keep hk5 (by omega)).cell 3 rfl, (hTd.keep hk5 (by omega)).cell 4 rfl, (hAd.keep hk5 (by omega)).cell 13 rfl⟩
 have HTH : Hid (w3.drew.there R 0 6) := hRd.there (Nat.le_refl _)
 have HINF : Hid ((Try.prog.info? 25).map (·.size) = some 6) := by show _ = _; kernel_rfl
 have HW5 := Lib.hid hw5
 have d0 := hR5.cell 0 rfl
 have d1 := hR5.cell 1 rfl
 have d2 := hR5.cell 2 rfl
 have d3 := hR5.cell 3 rfl
 have d4 := hR5.cell 4 rfl
 have d5 := hR5.cell 5 rfl
 clear hb1 hb2 hb3 hs1 hs2 hs3 hT3 hR3 hA3 hRd hTd hAd hk5 hR5 hw5
 go_enter Try.func41, Try.ntmps41
 go_wp2
 refine wp_region_noPanic ?_
 refine wp_region_held_drew (S := fun W => W.cell? ⟨T, 0, none⟩ = some (.int .i64 13) ∧ W.cell? ⟨T, 3, none⟩ = some (.int .i64 tn) ∧ W.cell? ⟨T, 4, none⟩ = some (.string ts) ∧ W.cell? ⟨A, 13, none⟩ = some (.int .i64 5)) (by kernel_rfl) HS0 (fun hHeld => ?_)
 refine wpAnyH_take (i := 0) (oi := ⟨_, _, _, _, _, _⟩) (v := ?_) rfl (by kernel_rfl) (by kernel_rfl) (by kernel_rfl) (fun _ _ _ h => h) (Or.inl ⟨by rfl, ?_⟩) (by assumption) ?_
 rotate_left
 ·intro w hSw
  clear hSw
  go_simp
  try with_reducible rfl
 simp only [Act.put, List.setIfInBounds_toArray, List.set_cons_zero, List.set_cons_succ]
 refine wpAnyH_take (i := 4) (oi := ⟨_, _, _, _, _, _⟩) (v := ?_) rfl (by kernel_rfl) (by kernel_rfl) (by kernel_rfl) (fun _ _ _ h => h) (Or.inl ⟨by rfl, ?_⟩) (by assumption) ?_
 rotate_left
 ·intro w hSw
  clear hSw
  go_simp
  try with_reducible rfl
 simp only [Act.put, List.setIfInBounds_toArray, List.set_cons_zero, List.set_cons_succ]
 refine wpAnyH_take (i := 6) (oi := ⟨_, _, _, _, _, _⟩) (v := ?_) rfl (by kernel_rfl) (by kernel_rfl) (by kernel_rfl) (fun _ _ _ h => h) (Or.inl ⟨by rfl, ?_⟩) (by assumption) ?_
 rotate_left
 ·intro w hSw
  clear hSw
  go_simp
  try with_reducible rfl
 simp only [Act.put, List.setIfInBounds_toArray, List.set_cons_zero, List.set_cons_succ]
 refine wpAnyH_take (i := 1) (oi := ⟨_, _, _, _, _, _⟩) (v := ?_) rfl (by kernel_rfl) (by kernel_rfl) (by kernel_rfl) (fun _ _ _ h => h) (Or.inl ⟨by rfl, ?_⟩) (by assumption) ?_
 rotate_left
 ·intro w hSw
  obtain ⟨s0, s1, s2, s3⟩ := hSw
  go_simp
  try with_reducible rfl
 simp only [Act.put, List.setIfInBounds_toArray, List.set_cons_zero, List.set_cons_succ]
 refine wpAnyH_take (i := 5) (oi := ⟨_, _, _, _, _, _⟩) (v := ?_) rfl (by kernel_rfl) (by kernel_rfl) (by kernel_rfl) (fun _ _ _ h => h) (Or.inl ⟨by rfl, ?_⟩) (by assumption) ?_
 rotate_left
 ·intro w hSw
  obtain ⟨s0, s1, s2, s3⟩ := hSw
  go_simp
  try with_reducible rfl
 simp only [Act.put, List.setIfInBounds_toArray, List.set_cons_zero, List.set_cons_succ]
 refine wpAnyH_take (i := 7) (oi := ⟨_, _, _, _, _, _⟩) (v := ?_) rfl (by kernel_rfl) (by kernel_rfl) (by kernel_rfl) (fun _ _ _ h => h) (Or.inl ⟨by rfl, ?_⟩) (by assumption) ?_
 rotate_left
 ·intro w hSw
  obtain ⟨s0, s1, s2, s3⟩ := hSw
  go_simp
  try with_reducible rfl
 simp only [Act.put, List.setIfInBounds_toArray, List.set_cons_zero, List.set_cons_succ]
 refine wpAnyH_take (i := 2) (oi := ⟨_, _, _, _, _, _⟩) (v := ?_) rfl (by kernel_rfl) (by kernel_rfl) (by kernel_rfl) (fun _ _ _ h => h) (Or.inl ⟨by rfl, ?_⟩) (by assumption) ?_
 rotate_left
 ·intro w hSw
  clear hSw
  go_simp
  try with_reducible rfl
 simp only [Act.put, List.setIfInBounds_toArray, List.set_cons_zero, List.set_cons_succ]
 refine wpAnyH_take (i := 3) (oi := ⟨_, _, _, _, _, _⟩) (v := ?_) rfl (by kernel_rfl) (by kernel_rfl) (by kernel_rfl) (fun _ _ _ h => h) (Or.inl ⟨by rfl, ?_⟩) (by assumption) ?_
 rotate_left
 ·intro w hSw
  obtain ⟨s0, s1, s2, s3⟩ := hSw
  go_simp
  try with_reducible rfl
 simp only [Act.put, List.setIfInBounds_toArray, List.set_cons_zero, List.set_cons_succ]
 refine wpAnyH_take (i := 8) (oi := ⟨_, _, _, _, _, _⟩) (v := ?_) rfl (by kernel_rfl) (by kernel_rfl) (by kernel_rfl) (fun _ _ _ h => h) (Or.inl ⟨by rfl, ?_⟩) (by assumption) ?_
 rotate_left
 ·intro w hSw
  clear hSw
  go_simp
  try with_reducible rfl
 simp only [Act.put, List.setIfInBounds_toArray, List.set_cons_zero, List.set_cons_succ]
 refine wpAnyH_ready (rs := [9]) (by kernel_rfl) (by simp) ?_
 refine AllReadyH.cons (o := ⟨_, _, _, _, _, _⟩) rfl (fun K hK => ?_) AllReadyH.nil
 refine wp_store_mid _ _ _ rfl R 0 #[.int .i64 5, .int .i64 tn, .string ts, .slice none 0 0, .slice none 0 0, .slice none 0 0] rfl rfl HTH.out HINF.out (by simp [Value.oneCell']) ?_
 rw [setCells6, HW5.out]
 refine hK.out _ _ ?_ (fun hHeld => ?_)
 ·exact HSE.out
 clear hK K
 try simp only [Act.put]
 refine wpAnyH_done (by kernel_rfl) ?_ _
 refine NoPanic.normal ?_
 go_wp2
 refine bodyPost_ret (v := .agg #[.int .i64 5, .int .i64 tn, .string ts, .slice none 0 0, .slice none 0 0, .slice none 0 0]) (by simp [results, Try.results41, go_sem, *]) rfl ?_
 exact ⟨rfl, HEND.out⟩
end Go.Proofs.Ytcopdfihaheplaa
