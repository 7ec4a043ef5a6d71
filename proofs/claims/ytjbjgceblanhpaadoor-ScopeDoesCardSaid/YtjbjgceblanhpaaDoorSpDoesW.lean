/-
  shuttlelaw05.ScopeDoes: its walk.
-/
import Derived.Test.YtjbjgceblanhpaaDoorSpDoesT
import Derived.Test.YtjbjgceblanhpaaDoorSpRow
namespace Go.Proofs.YtjbjgceblanhpaaDoor
open Go.RowKit
attribute [local go_sem] Oper.semAt_some
namespace Sp
open Dt
/-- between two acts -/
def Run (w0 : World) (T R mb : Nat) (wr : World) : Prop := ∃ vl xs v1 v2 ys t, St w0.heap.size wr T vl mb xs t R v1 v2 ys t
theorem wf_z : Wf (.mk 5 0 ⟨#[122]⟩ [] [] []) := by
  simp [Wf, Wfs]
  decide
end Sp
set_option maxRecDepth 100000 in
set_option maxHeartbeats 16000000 in
theorem ScopeDoes_walk (a : Option Addr) (c : Nat) (l : List Sp.O) (w : World) (hI : Sp.InRow w a c l) (hT : Sp.T10 w) :
    Calls Tryd.prog 6 #[.slice a l.length c] w fun e w' => e = .returned (.bool true) ∧ Below w.heap.size w w' := by
  have hsm := spSmall_any a c l w hI.row hI.len
  obtain ⟨k, hk⟩ : ∃ k, k = min l.length 60 := ⟨_, rfl⟩
  have hkl : k ≤ l.length := by omega
  have hk60 : k ≤ 60 := by omega
  rw [← hk] at hsm
  have HPRE := Lib.hid (hI.row.pre k hkl)
  have HKL : Hid ((l.take k).length = k) := by show _ = _; rw [List.length_take]; omega
  have HT := Lib.hid hT
  obtain ⟨L, hLk, hLr⟩ : ∃ L : List Sp.O, L.length = k ∧ Sp.ORow (fun _ => True) w (.slice a L.length c) L := ⟨l.take k, HKL.out, HPRE.out⟩
  have HLR := Lib.hid hLr
  clear hLr HPRE HKL
  subst hLk
  obtain ⟨B, hB⟩ : ∃ B, B = Sp.smallL l := ⟨_, rfl⟩
  rw [← hB] at hsm
  clear hI hT hk hB
  cases B
  case false =>
    have hsm2 : Calls Tryd.prog 8 #[.slice a l.length c] w fun e w' => e = .returned (.tuple #[.slice none 0 0, .bool false]) ∧ Below w.heap.size w w' := hsm
    clear hsm
    go_enter Tryd.func6, Tryd.ntmps6
    go_wp2_with (go_at_call 8; refine hsm2.mono ?_; clear hsm2; rintro e w1 ⟨rfl, hb1⟩; have HB1 := Lib.hid hb1; have hnw := spNew_any w1; clear hb1; refine Hid.out ?_)
    refine Lib.hid ?_
    go_wp2_with (go_at_call 21; refine hnw.mono ?_; clear hnw; rintro e w2 ⟨T, vl, mb, rfl, -, hb2⟩; have HB2 := Lib.hid (HB1.out.trans (hb2.mono HB1.out.size)); have hnw := rNew_any w2; clear hb2; refine Hid.out ?_)
    refine Lib.hid ?_
    go_wp2_with (go_at_call 22; refine hnw.mono ?_; clear hnw; rintro e w3 ⟨R, v1, v2, rfl, -, -, hb3⟩; have HB3 := Lib.hid (HB2.out.trans (hb3.mono HB2.out.size)); have haw := spAwake_any w3 (HT.out.on HB3.out); clear hb3; refine Hid.out ?_)
    refine Lib.hid ?_
    go_wp2_with (go_at_call 9; refine haw.mono ?_; clear haw; rintro e w4 ⟨rfl, hb4⟩; have HB4 := Lib.hid (HB3.out.trans (hb4.mono HB3.out.size)); have haw := spAwake_any w4 (HT.out.on HB4.out); clear hb4; refine Hid.out ?_)
    refine Lib.hid ?_
    go_wp2_with (go_at_call 9; refine haw.mono ?_; clear haw; rintro e w5 ⟨rfl, hb5⟩; have HB5 := Lib.hid (HB4.out.trans (hb5.mono HB4.out.size)); clear hb5)
    go_ret
    exact ⟨rfl, HB5.out⟩
  have hsm2 : Calls Tryd.prog 8 #[.slice a l.length c] w fun e w' => e = .returned (.tuple #[.slice a L.length c, .bool true]) ∧ Below w.heap.size w w' := hsm
  clear hsm
  go_enter Tryd.func6, Tryd.ntmps6
  go_wp2_with (go_at_call 8; refine hsm2.mono ?_; clear hsm2; rintro e w1 ⟨rfl, hb1⟩; have HB1 := Lib.hid hb1; have hnw := spNew_any w1; clear hb1; refine Hid.out ?_)
  refine Lib.hid ?_
  go_wp2_with (go_at_call 21; refine hnw.mono ?_; clear hnw; rintro e w2 ⟨T, vl, mb, rfl, ht2, hb2⟩; have HT2 := Lib.hid ht2; have HB12 := Lib.hid hb2; have HB2 := Lib.hid (HB1.out.trans (hb2.mono HB1.out.size)); have hnw := rNew_any w2; clear hb2 ht2; refine Hid.out ?_)
  refine Lib.hid ?_
  go_wp2_with (go_at_call 22; refine hnw.mono ?_; clear hnw; rintro e w3 ⟨R, v1, v2, rfl, hr3, hi3, hb3⟩; have HST3 := Lib.hid (Sp.St.new HT2.out HB12.out hr3 hi3 hb3); have HB3 := Lib.hid (HB2.out.trans (hb3.mono HB2.out.size)); have HB13 := Lib.hid (HB12.out.trans (hb3.mono HB12.out.size)); have haw := spAwake_any w3 (HT.out.on HB3.out); clear hb3 hr3 hi3; refine Hid.out ?_)
  refine Lib.hid ?_
  go_wp2_with (go_at_call 9; refine haw.mono ?_; clear haw; rintro e w4 ⟨rfl, hb4⟩; have HST4 := Lib.hid (HST3.out.below hb4); have HB4 := Lib.hid (HB3.out.trans (hb4.mono HB3.out.size)); have HB14 := Lib.hid (HB13.out.trans (hb4.mono HB13.out.size)); clear hb4; refine Hid.out ?_)
  refine Lib.hid ?_
  have HC := Lib.hid (HLR.out.below HB1.out)
  have HTW1 := Lib.hid (HT.out.on HB1.out)
  clear HST3 HB3 HB13 HB12 HT2 HB2 HLR
  go_wp2_with fail
  go_loopw [5, 30] (fun p v wr => ∃ (T mb j : Nat), p = .pointer (some ⟨T, 0, none⟩) ∧ v = .int .i64 j ∧ j ≤ L.length ∧ Hid (Sp.Run w1 T R mb wr) ∧ Hid (Below w1.heap.size w1 wr)) (fun _ v _ => L.length - (intOf v).toNat)
  case atStart => exact ⟨T, mb, 0, rfl, rfl, Nat.zero_le _, ⟨_, _, _, _, _, _, HST4.out⟩, HB14.out⟩
  case round =>
    clear HST4 HB14 HB4
    obtain ⟨T, mb, j, rfl, rfl, hj, HRUN, HBR⟩ := hrel
    obtain ⟨vl, xs, v1, v2, ys, t, hst⟩ := HRUN.out
    have HST := Lib.hid hst
    clear hst HRUN
    by_cases hlt : j < L.length
    · have hlti : (j : Int) < (L.length : Int) := by omega
      have hj0 : (0 : Int) ≤ (j : Int) := by omega
      have hj60 : (j : Int) < 60 := by omega
      obtain ⟨a', c', e0, -, hcell⟩ := HC.out
      obtain ⟨rfl, -, rfl⟩ := Sp.slice_inj e0
      obtain ⟨b, o, rfl, -, hbl, hat⟩ := hcell (by intro e; rw [e] at hlt; simp at hlt)
      obtain ⟨⟨c0, c1, c2, c15⟩, ⟨vm, vl1, vt, hs, hr⟩, ⟨um, ul, ut, hs2, hr2⟩, hw1, hw2⟩ := hat j hlt
      obtain ⟨x, hx⟩ : ∃ x, x = L[j] := ⟨_, rfl⟩
      rw [← hx] at c0 c1 c2 c15 hs hr hs2 hr2 hw1 hw2
      obtain ⟨⟨a1, q1, rfl, -⟩, ⟨a2, q2, rfl, -⟩, ⟨a3, q3, rfl, -⟩⟩ := (Dt.rep_iff _ _ _ _ _ _).1 hr
      obtain ⟨⟨b1, r1, rfl, -⟩, ⟨b2, r2, rfl, -⟩, ⟨b3, r3, rfl, -⟩⟩ := (Dt.rep_iff _ _ _ _ _ _).1 hr2
      have hc : ∀ i v, w1.cell? ⟨b, i, none⟩ = some v → wr.cell? ⟨b, i, none⟩ = some v := fun i v h => (HBR.out.cell (p := ⟨b, i, none⟩) hbl).trans h
      have c0 := hc _ _ c0
      have c1 := hc _ _ c1
      have c2 := hc _ _ c2
      have c15 := hc _ _ c15
      have k0 : wr.cell? ⟨b, o + j * 16 + 3, none⟩ = some _ := hc _ _ hs.c0
      have k1 : wr.cell? ⟨b, o + j * 16 + 4, none⟩ = some _ := hc _ _ hs.c1
      have k2 : wr.cell? ⟨b, o + j * 16 + 5, none⟩ = some _ := hc _ _ hs.c2
      have k3 : wr.cell? ⟨b, o + j * 16 + 6, none⟩ = some _ := hc _ _ hs.c3
      have k4 : wr.cell? ⟨b, o + j * 16 + 7, none⟩ = some _ := hc _ _ hs.c4
      have k5 : wr.cell? ⟨b, o + j * 16 + 8, none⟩ = some _ := hc _ _ hs.c5
      have m0 : wr.cell? ⟨b, o + j * 16 + 9, none⟩ = some _ := hc _ _ hs2.c0
      have m1 : wr.cell? ⟨b, o + j * 16 + 10, none⟩ = some _ := hc _ _ hs2.c1
      have m2 : wr.cell? ⟨b, o + j * 16 + 11, none⟩ = some _ := hc _ _ hs2.c2
      have m3 : wr.cell? ⟨b, o + j * 16 + 12, none⟩ = some _ := hc _ _ hs2.c3
      have m4 : wr.cell? ⟨b, o + j * 16 + 13, none⟩ = some _ := hc _ _ hs2.c4
      have m5 : wr.cell? ⟨b, o + j * 16 + 14, none⟩ = some _ := hc _ _ hs2.c5
      obtain ⟨wB, hwB⟩ : ∃ wB, wr.alloc (.cells #[.int .i64 x.d, .int .i64 x.s, .int .i64 x.t, .int .i64 x.id.k, .int .i64 x.id.n, .string x.id.s, .slice a1 x.id.m.length q1, .slice a2 x.id.l.length q2, .slice a3 x.id.t.length q3, .int .i64 x.nd.k, .int .i64 x.nd.n, .string x.nd.s, .slice b1 x.nd.m.length r1, .slice b2 x.nd.l.length r2, .slice b3 x.nd.t.length r3, .int .i64 x.n] 30) = wB := ⟨_, rfl⟩
      have HNB := Lib.hid (Sp.below_new (Below.refl _ wr) hwB (Nat.le_refl _))
      have HBB := Lib.hid (HBR.out.trans (HNB.out.1.mono HBR.out.size))
      have HSB := Lib.hid (HST.out.below HNB.out.1)
      have HOB := Lib.hid (Sp.OBox.mk' hwB)
      have HNX : Hid (¬ Sp.Both T vl mb R v1 v2 wr.heap.size) := fun e => by have := (HST.out.bothge _ e).2; omega
      have l0 := HOB.out 0 _ rfl
      have l1 := HOB.out 1 _ rfl
      have l2 := HOB.out 2 _ rfl
      have l3 := HOB.out 3 _ rfl
      have l4 := HOB.out 4 _ rfl
      have l5 := HOB.out 5 _ rfl
      have l6 := HOB.out 6 _ rfl
      have l7 := HOB.out 7 _ rfl
      have l8 := HOB.out 8 _ rfl
      have l9 := HOB.out 9 _ rfl
      have l10 := HOB.out 10 _ rfl
      have l11 := HOB.out 11 _ rfl
      have l12 := HOB.out 12 _ rfl
      have l13 := HOB.out 13 _ rfl
      have l14 := HOB.out 14 _ rfl
      have l15 := HOB.out 15 _ rfl
      have hdo := spDoes_any x _ _ _ _ _ _ w1 wB HSB.out HBB.out hw1 hw2 hr hr2 HTW1.out
      clear hs hr hs2 hr2 hat hc hw1 hw2 hx e0 hcell
      go_wp2_with (go_at_call 23; refine hdo.mono ?_; clear hdo hwB; rintro e w5 ⟨rfl, ⟨vl5, xs5, v15, v25, ys5, hst5⟩, hb5, hk5⟩; have HS5 := Lib.hid hst5; have HB5 := Lib.hid hb5; have HO5 := Lib.hid (HOB.out.keep hk5 HNX.out); have hnm := spNamesLaw_any x.s w5 hst5; clear hst5 hb5 hk5 l0 l1 l2 l3 l4 l5 l6 l7 l8 l9 l10 l11 l12 l13 l14 l15 c0 c1 c2 c15 k0 k1 k2 k3 k4 k5 m0 m1 m2 m3 m4 m5; refine Hid.out ?_)
      refine Lib.hid ?_
      have l1 := HO5.out 1 _ rfl
      go_wp2_with (go_at_call 24; refine hnm.mono ?_; clear hnm; rintro e w6 ⟨rfl, hb6⟩; have HS6 := Lib.hid (HS5.out.below hb6); have HB6 := Lib.hid (HB5.out.trans (hb6.mono HB5.out.size)); have HO6 := Lib.hid (HO5.out.below hb6); clear hb6 l1; refine Hid.out ?_)
      refine Lib.hid ?_
      have l0 := HO6.out 0 _ rfl
      by_cases h3 : x.d = 3
      case neg =>
        have h3' : (x.d != 3) = true := bne_iff_ne.2 h3
        clear h3
        go_wp2
        go_roundw
        case rel => exact ⟨T, mb, j + 1, rfl, by simp, by omega, ⟨_, _, _, _, _, _, HS6.out⟩, HB6⟩
        case measure => simp [intOf]; omega
      have h3' : (x.d != 3) = false := by rw [h3]; rfl
      obtain ⟨t', ht'⟩ : ∃ t', t' = Sp.step t x := ⟨_, rfl⟩
      rw [← ht'] at HS6
      have hcl := spClone_any w6 HS6.out.tab HS6.out.ids
      clear h3 ht'
      go_wp2_with (go_at_call 25; refine hcl.mono ?_; clear hcl; rintro e w7 ⟨T2, vl2, mb2, rfl, ht7, hb7⟩; have HT7 := Lib.hid ht7; have HB67 := Lib.hid hb7; have HS7 := Lib.hid (HS6.out.below hb7); have HB7 := Lib.hid (HB6.out.trans (hb7.mono HB6.out.size)); have hsy := spSym_any ⟨#[122]⟩ none 0 0 w7; clear ht7 hb7; refine Hid.out ?_)
      refine Lib.hid ?_
      go_wp2_with (go_at_call 17; refine hsy.mono ?_; clear hsy; rintro e w8 ⟨rfl, hb8⟩; have HK8 : Hid (Keep (Sp.Mut T vl5 mb) w7 w8) := (Keep.refl _ w7).below hb8; have HS8 := Lib.hid (HS7.out.below hb8); have HB8 := Lib.hid (HB7.out.trans (hb8.mono HB7.out.size)); have hex := spExtend_any (F := fun _ => True) 0 (.mk 5 0 ⟨#[122]⟩ [] [] []) (.slice none 0 0) (.slice none 0 0) (.slice none 0 0) 3 w8 HS8.out.tab HS8.out.hn Sp.wf_z ((Dt.rep_iff _ _ _ _ _ _).2 ⟨⟨none, 0, rfl, Nat.le_refl _, fun h => absurd rfl h⟩, ⟨none, 0, rfl, Nat.le_refl _, fun h => absurd rfl h⟩, ⟨none, 0, rfl, Nat.le_refl _, fun h => absurd rfl h⟩⟩) (HTW1.out.on HB8.out); clear hb8; refine Hid.out ?_)
      refine Lib.hid ?_
      go_wp2_with (go_at_call 12; refine hex.mono ?_; clear hex; rintro e w9 ⟨rfl, hpo⟩; obtain ⟨vl9, xs9, hst9, hk9, hv9⟩ := HS8.out.ext hpo; have HS9 := Lib.hid hst9; have HK9 := Lib.hid (HK8.out.trans hk9); have hmk := spMark_any 0 w9 hst9.tab; clear hpo hst9 hk9 hv9; refine Hid.out ?_)
      refine Lib.hid ?_
      go_wp2_with (go_at_call 16; refine hmk.mono ?_; clear hmk; rintro e w10 ⟨rfl, -, hk10⟩; have HK10 := Lib.hid (HK9.out.trans (hk10.mono (fun k _ e => .inr (.inr e)))); clear hk10; refine Hid.out ?_)
      refine Lib.hid ?_
      have HSC := Lib.hid (HS6.out.clone HB67.out HT7.out HK10.out)
      have HBC := Lib.hid (HB7.out.trans (HK10.out.to_below (fun k e => (HS7.out.bothge k (.inl e)).1) HS7.out.hn))
      go_wp2_with fail
      go_roundw
      case rel => exact ⟨T2, mb2, j + 1, rfl, by simp, by omega, ⟨_, _, _, _, _, _, HSC.out⟩, HBC⟩
      case measure => simp [intOf]; omega
    · obtain rfl : j = L.length := by omega
      have hge : (L.length : Int) ≤ (L.length : Int) := by omega
      obtain ⟨gr, cr, e1, -, -⟩ := HST.out.rt.at
      subst e1
      have c0 := HST.out.rt.c0
      have hl1 := HST.out.tab.ok.small.1
      have hnm := spNamesLaw_any ((t.l.length : Int) - 1) wr HST.out
      go_wp2_with (go_at_call 24; refine hnm.mono ?_; clear hnm; rintro e w6 ⟨rfl, hb6⟩; have HB6 := Lib.hid (HBR.out.trans (hb6.mono HBR.out.size)); clear hb6)
      go_ret
      exact ⟨rfl, HB1.out.trans (HB6.out.mono HB1.out.size)⟩
end Go.Proofs.YtjbjgceblanhpaaDoor
