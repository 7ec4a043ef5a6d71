/-
  code.Check: whether a program may be.
-/
import Derived.Test.YtlckjphnbfahgaaCdGood
import Derived.Test.YtlckjphnbfahgaaCdCheckP
import Derived.Test.YtlckjphnbfahgaaCdPlain
import Derived.Test.YtlckjphnbfahgaaCdSame1
namespace Go.Proofs.Ytlckjphnbfahgaa
open Go.RowKit
attribute [local go_sem] Oper.semAt_some
set_option maxRecDepth 100000 in
set_option maxHeartbeats 16000000 in
theorem check_any {F : Nat → Prop} (p : Cd.Prog) (vc vk vn : Value) (w : World) (hp : Cd.PRep F w p vc vk vn) (hw : Cd.PWf p) :
    Calls Try.prog 11 #[.agg #[vc, vk, vn]] w fun e w' => e = .returned (.int .i64 (Cd.checkP p)) ∧ Below w.heap.size w w' := by
  obtain ⟨a1, c1, a2, c2, a3, c3, rfl, rfl, rfl⟩ := hp.forms
  obtain ⟨R, hR⟩ : ∃ R, R = Cd.checkP p := ⟨_, rfl⟩
  rw [← hR]
  obtain ⟨w1, hw1⟩ : ∃ w1, w.alloc (.cells #[.slice a1 p.codes.length c1, .slice a2 p.consts.length c2, .slice a3 p.names.length c3] 26) = w1 := ⟨_, rfl⟩
  obtain ⟨hb1, hs1, hbp⟩ := Cd.boxP hw1
  obtain ⟨p0, p1, p2⟩ := hbp w1 (Below.refl _ _)
  have HP := Lib.hid hp
  have HW := Lib.hid hw
  have HB1 := Lib.hid hb1
  have HS1 := Lib.hid hs1
  have HBP := Lib.hid hbp
  have HR := Lib.hid hR
  clear hp hw hb1 hs1 hbp hR
  by_cases l0 : p.codes.length = 0
  · have l0' : ((p.codes.length : Int) == 0) = true := by rw [l0]; rfl
    have HE : Hid (R = 90) := by show _ = _; rw [HR.out]; exact Cd.check_far (.inl l0)
    clear HR l0
    go_enter Try.func11, Try.ntmps11
    go_wp2
    go_ret
    exact ⟨by rw [HE.out]; rfl, HB1.out⟩
  have l0' : ((p.codes.length : Int) == 0) = false := beq_eq_false_iff_ne.2 (by omega)
  by_cases l1 : 1024 < p.codes.length
  · have l1' : decide ((1024 : Int) < (p.codes.length : Int)) = true := decide_eq_true (by omega)
    have HE : Hid (R = 90) := by show _ = _; rw [HR.out]; exact Cd.check_far (.inr (.inl l1))
    clear HR l0 l1
    go_enter Try.func11, Try.ntmps11
    go_wp2
    go_ret
    exact ⟨by rw [HE.out]; rfl, HB1.out⟩
  have l1' : decide ((1024 : Int) < (p.codes.length : Int)) = false := decide_eq_false (by omega)
  by_cases l2 : 1024 < p.consts.length
  · have l2' : decide ((1024 : Int) < (p.consts.length : Int)) = true := decide_eq_true (by omega)
    have HE : Hid (R = 90) := by show _ = _; rw [HR.out]; exact Cd.check_far (.inr (.inr (.inl l2)))
    clear HR l0 l1 l2
    go_enter Try.func11, Try.ntmps11
    go_wp2
    go_ret
    exact ⟨by rw [HE.out]; rfl, HB1.out⟩
  have l2' : decide ((1024 : Int) < (p.consts.length : Int)) = false := decide_eq_false (by omega)
  by_cases l3 : 1024 < p.names.length
  · have l3' : decide ((1024 : Int) < (p.names.length : Int)) = true := decide_eq_true (by omega)
    have HE : Hid (R = 90) := by show _ = _; rw [HR.out]; exact Cd.check_far (.inr (.inr (.inr (.inl l3))))
    clear HR l0 l1 l2 l3
    go_enter Try.func11, Try.ntmps11
    go_wp2
    go_ret
    exact ⟨by rw [HE.out]; rfl, HB1.out⟩
  have l3' : decide ((1024 : Int) < (p.names.length : Int)) = false := decide_eq_false (by omega)
  have hpos : (0 : Int) < (p.codes.length : Int) := by omega
  obtain ⟨b, o, rfl, -, -, x0, -, x2, -⟩ := Cd.code_at (HP.out.below HB1.out).codes 0 (by omega)
  obtain ⟨d, hd⟩ : ∃ d, d = p.codes[0]'(by omega) := ⟨_, rfl⟩
  rw [← hd] at x0 x2
  simp only [Nat.zero_mul, Nat.add_zero] at x0 x2
  have hhd : p.codes.head? = some d := by
    rw [hd, List.head?_eq_getElem?, List.getElem?_eq_getElem (by omega)]
  by_cases h0 : d.params = 0
  case neg =>
    have h0' : (d.params != 0) = true := bne_iff_ne.2 h0
    have HE : Hid (R = 90) := by show _ = _; rw [HR.out]; exact Cd.check_far (.inr (.inr (.inr (.inr (by rw [hhd]; simp [h0])))))
    clear HR l0 l1 l2 l3 h0 hd hhd
    go_enter Try.func11, Try.ntmps11
    go_wp2
    go_ret
    exact ⟨by rw [HE.out]; rfl, HB1.out⟩
  have h0' : (d.params != 0) = false := bne_eq_false_iff_eq.2 h0
  by_cases h2 : d.caps = 0
  case neg =>
    have h2' : (d.caps != 0) = true := bne_iff_ne.2 h2
    have HE : Hid (R = 90) := by show _ = _; rw [HR.out]; exact Cd.check_far (.inr (.inr (.inr (.inr (by rw [hhd]; simp [h2])))))
    clear HR l0 l1 l2 l3 h0 h2 hd hhd
    go_enter Try.func11, Try.ntmps11
    go_wp2
    go_ret
    exact ⟨by rw [HE.out]; rfl, HB1.out⟩
  have h2' : (d.caps != 0) = false := bne_eq_false_iff_eq.2 h2
  have HFAR : Hid (¬ Cd.Far p) := by
    show ¬ _
    rintro (h | h | h | h | h)
    · exact l0 h
    · exact l1 h
    · exact l2 h
    · exact l3 h
    · rw [hhd] at h
      simp [h0, h2] at h
  have hl1 : p.codes.length ≤ 1024 := by omega
  have hl2 : p.consts.length ≤ 1024 := by omega
  have hl3 : p.names.length ≤ 1024 := by omega
  clear l0 l1 l2 l3 h0 h2 hd hhd
  go_enter Try.func11, Try.ntmps11
  go_wp2
  clear l0' l1' l2' l3' h0' h2' x0 x2 p0 p1 p2 hw1
  go_loopw [50] (fun v wr => ∃ k : Nat, v = .int .i64 k ∧ k ≤ p.consts.length ∧ Hid (∀ i, i < k → Cd.constOk p i = true) ∧ Hid (Below w1.heap.size w1 wr)) (fun v _ => p.consts.length - (intOf v).toNat)
  case atStart => exact ⟨0, rfl, by omega, fun i hi => by omega, Below.refl _ _⟩
  case round =>
    obtain ⟨k, rfl, hk, HK, HBR⟩ := hrel
    obtain ⟨p0, p1, p2⟩ := HBP.out _ HBR.out
    by_cases hlt : k < p.consts.length
    · have hlti : (k : Int) < (p.consts.length : Int) := by omega
      have HB : Hid (Below w.heap.size w wr) := HB1.out.trans (HBR.out.mono HB1.out.size)
      obtain ⟨b, o, vm, vl, vt, rfl, -, ⟨x0, x1, x2, x3, x4, x5⟩, hrep⟩ := Cd.const_at (HP.out.below HB.out).consts k hlt
      have hwf := Cd.wfs_at HW.out.wk k hlt
      obtain ⟨hrow, hcap⟩ := Cd.row_take (HP.out.below HB.out).consts k hk
      have hok := Cd.constOk_at hlt
      have hno := fun h => Cd.check_const k hlt h
      obtain ⟨x, hx⟩ : ∃ x, x = p.consts[k] := ⟨_, rfl⟩
      rw [← hx] at x0 x1 x2 hrep hwf hok
      obtain ⟨⟨am, cm, rfl, _⟩, ⟨al, c_l, rfl, _⟩, ⟨at_, ct, rfl, _⟩⟩ := (Dt.rep_iff _ _ x vm vl vt).1 hrep
      obtain ⟨w4, hw4⟩ : ∃ w4, wr.alloc (.cells #[.int .i64 x.k, .int .i64 x.n, .string x.s, .slice am x.m.length cm, .slice al x.l.length c_l, .slice at_ x.t.length ct] 55) = w4 := ⟨_, rfl⟩
      have hb4 : Below wr.heap.size wr w4 := by rw [← hw4]; exact (Below.refl _ _).alloc (Nat.le_refl _) _
      have hsix := Dt.six_of' wr x (.slice am x.m.length cm) (.slice al x.l.length c_l) (.slice at_ x.t.length ct) 55
      rw [hw4] at hsix
      have HSIX := Lib.hid hsix
      obtain ⟨z0, z1, z2, z3, z4, z5⟩ := hsix
      simp only [Nat.zero_add] at z0 z1 z2 z3 z4 z5
      have hpl := plain_any x _ _ _ w4 hwf (hrep.below hb4)
      have hcapi : (k : Int) ≤ (c2 : Int) := by omega
      have HREP : Hid (Dt.Rep F w4 x _ _ _) := hrep.below hb4
      have HROW : Hid (Dt.Row F w4 (.slice (some ⟨b, o, none⟩) k c2) (p.consts.take k)) := hrow.below hb4
      have HWF := Lib.hid hwf
      have HB4 : Hid (Below w1.heap.size w1 w4) := HBR.out.trans (hb4.mono HBR.out.size)
      obtain ⟨p0', p1', p2'⟩ := HBP.out w4 HB4.out
      obtain ⟨b4, hb4e⟩ : ∃ b4, wr.heap.size = b4 := ⟨_, rfl⟩
      have HB44 : Hid (Below b4 wr w4) := by rw [← hb4e]; exact hb4
      obtain ⟨P, hP⟩ : ∃ P, Cd.plainD x = P := ⟨_, rfl⟩
      obtain ⟨A, hA⟩ : ∃ A, ((p.consts.take k).any fun y => Dt.sameD y x) = A := ⟨_, rfl⟩
      rw [hP] at hpl hok
      rw [hA] at hok
      have HA := Lib.hid hA
      have HOK := Lib.hid hok
      have HNO := Lib.hid hno
      rw [hb4e] at HSIX z0 z1 z2 z3 z4 z5
      clear hx hb4 hrep hwf hrow hcap hok hno hP hA
      cases P with
      | false =>
        have HE : Hid (R = 90) := by show _ = _; rw [HR.out]; exact HNO.out (by rw [HOK.out]; rfl)
        clear HR HOK HNO HA
        go_wp2_with (go_at_call 24; refine hpl.mono ?_; clear hpl; rintro e w9 ⟨rfl, hb9⟩; have HB9 : Hid (Below w1.heap.size w1 w9) := HB4.out.trans (hb9.mono HB4.out.size); clear hb9)
        go_ret
        exact ⟨by rw [HE.out]; rfl, HB1.out.trans (HB9.out.mono HB1.out.size)⟩
      | true =>
        cases A with
        | true =>
          have HE : Hid (R = 90) := by show _ = _; rw [HR.out]; exact HNO.out (by rw [HOK.out]; rfl)
          clear HR HOK HNO
          go_wp2_with (first | (go_at_call 24; refine hpl.mono ?_; clear hpl hw4 x0 x1 x2 x3 x4 x5 z0 z1 z2 z3 z4 z5 p0 p1 p2 p0' p1' p2'; rintro e w9 ⟨rfl, hb9⟩; have hcc := cContains_any _ _ _ _ (p.consts.take k) x b4 w9 (HROW.out.below hb9) (by rw [List.length_take]; omega) (Cd.wfs_take HW.out.wk k) HWF.out (HREP.out.below hb9) (Dt.Six.keep HSIX.out ((Keep.refl (fun _ => False) w4).below hb9) (block_lt_of_cell HSIX.out.1) id); rw [HA.out] at hcc; have HB9 : Hid (Below w1.heap.size w1 w9) := HB4.out.trans (hb9.mono HB4.out.size); obtain ⟨p0, p1, p2⟩ := HBP.out w9 HB9.out; clear hb9) | (go_at_call 25; refine hcc.mono ?_; clear hcc; rintro e w8 ⟨rfl, hb8⟩; have HB8 := Lib.hid (HB9.out.trans (hb8.mono HB9.out.size)); clear hb8))
          go_ret
          exact ⟨by rw [HE.out]; rfl, HB1.out.trans (HB8.out.mono HB1.out.size)⟩
        | false =>
          go_wp2_with (first | (go_at_call 24; refine hpl.mono ?_; clear hpl hw4 x0 x1 x2 x3 x4 x5 z0 z1 z2 z3 z4 z5 p0 p1 p2 p0' p1' p2'; rintro e w9 ⟨rfl, hb9⟩; have hcc := cContains_any _ _ _ _ (p.consts.take k) x b4 w9 (HROW.out.below hb9) (by rw [List.length_take]; omega) (Cd.wfs_take HW.out.wk k) HWF.out (HREP.out.below hb9) (Dt.Six.keep HSIX.out ((Keep.refl (fun _ => False) w4).below hb9) (block_lt_of_cell HSIX.out.1) id); rw [HA.out] at hcc; have HB9 : Hid (Below w1.heap.size w1 w9) := HB4.out.trans (hb9.mono HB4.out.size); obtain ⟨p0, p1, p2⟩ := HBP.out w9 HB9.out; clear hb9) | (go_at_call 25; refine hcc.mono ?_; clear hcc; rintro e w8 ⟨rfl, hb8⟩; have HB8 := Lib.hid (HB9.out.trans (hb8.mono HB9.out.size)); clear hb8))
          go_roundw
          case rel =>
            refine ⟨k + 1, by simp, by omega, fun i hi => ?_, HB8⟩
            by_cases e : i = k
            · rw [e, HOK.out]; rfl
            · exact HK.out i (by omega)
          case measure => simp [intOf]; omega
    · have hge : (p.consts.length : Int) ≤ (k : Int) := by omega
      have hd : decide (k < p.consts.length) = false := decide_eq_false hlt
      have hd' : (k < p.consts.length) = False := eq_false hlt
      have HKC : Hid (∀ i, i < p.consts.length → Cd.constOk p i = true) := fun i hi => HK.out i (by omega)
      clear hlt HK
      go_wp2
      try simp only [hd, hd', decide_false]
      clear hd hd' p0 p1 p2
      go_loopw [70] (fun v wz => ∃ k : Nat, v = .int .i64 k ∧ k ≤ p.names.length ∧ Hid (∀ i, i < k → Cd.nameOk p i = true) ∧ Hid (Below w1.heap.size w1 wz)) (fun v _ => p.names.length - (intOf v).toNat)
      case atStart => exact ⟨0, rfl, by omega, fun i hi => by omega, HBR⟩
      case round =>
        clear hge hk HBR
        obtain ⟨k, rfl, hk, HK, HBR⟩ := hrel
        obtain ⟨p0, p1, p2⟩ := HBP.out _ HBR.out
        by_cases hlt : k < p.names.length
        · have hlti : (k : Int) < (p.names.length : Int) := by omega
          have HB : Hid (Below w.heap.size w _) := HB1.out.trans (HBR.out.mono HB1.out.size)
          have hnr := (HP.out.below HB.out).names
          obtain ⟨b, o, rfl, -, x0⟩ := Cd.name_at hnr k hlt
          have hok := Cd.nameOk_at hlt
          have hno := fun h => Cd.check_name k hlt h
          have hidx := index_any _ p.names p.names[k] _ hnr (by omega)
          have HIX : Hid (∀ z, Cd.IdxIs p.names p.names[k] z → (z != (k : Int)) = (p.names.take k).contains p.names[k]) := fun z hz => hz.at hlt
          have hsz := HW.out.wn p.names[k] (List.getElem_mem hlt)
          obtain ⟨s, hs⟩ : ∃ s, s = p.names[k] := ⟨_, rfl⟩
          rw [← hs] at x0 hok hidx HIX hsz
          have hsy := dSymbol_any s wr hsz
          obtain ⟨A, hA⟩ : ∃ A, A = Lx.symbol s.data.toList := ⟨_, rfl⟩
          obtain ⟨C, hC⟩ : ∃ C, C = (p.names.take k).contains s := ⟨_, rfl⟩
          rw [← hA] at hsy hok
          rw [← hC] at hok HIX
          have HOK := Lib.hid hok
          have HNO := Lib.hid hno
          clear hs hA hC hok hno hnr hsz
          cases A with
          | false =>
            have HE : Hid (R = 90) := by show _ = _; rw [HR.out]; exact HNO.out (by rw [HOK.out]; rfl)
            clear HR HOK HNO
            go_wp2_with (go_at_call 28; refine hsy.mono ?_; clear hsy; rintro e w9 ⟨rfl, rfl⟩)
            go_ret
            exact ⟨by rw [HE.out]; rfl, HB.out⟩
          | true =>
            cases C with
            | true =>
              have HE : Hid (R = 90) := by show _ = _; rw [HR.out]; exact HNO.out (by rw [HOK.out]; rfl)
              clear HR HOK HNO
              go_wp2_with (first | (go_at_call 28; refine hsy.mono ?_; clear hsy; rintro e w9 ⟨rfl, rfl⟩) | (go_at_call 29; refine hidx.mono ?_; clear hidx; rintro e w9 ⟨⟨z, rfl, hz⟩, rfl⟩; have hzk := HIX.out z hz; clear hz))
              go_ret
              exact ⟨by rw [HE.out]; rfl, HB.out⟩
            | false =>
              go_wp2_with (first | (go_at_call 28; refine hsy.mono ?_; clear hsy; rintro e w9 ⟨rfl, rfl⟩) | (go_at_call 29; refine hidx.mono ?_; clear hidx; rintro e w9 ⟨⟨z, rfl, hz⟩, rfl⟩; have hzk := HIX.out z hz; clear hz))
              go_roundw
              case rel =>
                refine ⟨k + 1, by simp, by omega, fun i hi => ?_, HBR⟩
                by_cases e : i = k
                · rw [e, HOK.out]; rfl
                · exact HK.out i (by omega)
              case measure => simp [intOf]; omega
        · have hge : (p.names.length : Int) ≤ (k : Int) := by omega
          have hd : decide (k < p.names.length) = false := decide_eq_false hlt
          have hd' : (k < p.names.length) = False := eq_false hlt
          have HKN : Hid (∀ i, i < p.names.length → Cd.nameOk p i = true) := fun i hi => HK.out i (by omega)
          clear hlt HK
          go_wp2
          try simp only [hd, hd', decide_false]
          clear hd hd' p0 p1 p2
          go_loopw [90] (fun v wz => ∃ k : Nat, v = .int .i64 k ∧ k ≤ p.codes.length ∧ Hid (∀ i, (hi : i < p.codes.length) → i < k → Cd.good p p.codes[i] = true) ∧ Hid (Below w1.heap.size w1 wz)) (fun v _ => p.codes.length - (intOf v).toNat)
          case atStart => exact ⟨0, rfl, by omega, fun i _ hi => by omega, HBR⟩
          case round =>
            clear hge hk HBR
            obtain ⟨k, rfl, hk, HK, HBR⟩ := hrel
            obtain ⟨p0, p1, p2⟩ := HBP.out _ HBR.out
            by_cases hlt : k < p.codes.length
            · have hlti : (k : Int) < (p.codes.length : Int) := by omega
              have HB : Hid (Below w.heap.size w _) := HB1.out.trans (HBR.out.mono HB1.out.size)
              have hpr := HP.out.below HB.out
              obtain ⟨b, o, hao, -, -, x0, x1, x2, x3, vi, x4, hi⟩ := Cd.code_at hpr.codes k hlt
              cases hao
              obtain ⟨ai, ci, rfl⟩ := hi.form
              have hlen := (HW.out.wc p.codes[k] (List.getElem_mem hlt)).2.2.2.2.1
              have hno := fun h => Cd.check_code k hlt h
              obtain ⟨c, hc⟩ : ∃ c, c = p.codes[k] := ⟨_, rfl⟩
              have HCE := Lib.hid hc
              rw [← hc] at x0 x1 x2 x3 x4 hi hlen hno
              obtain ⟨w4, hw4⟩ : ∃ w4, wr.alloc (.cells #[.int .i64 c.params, .int .i64 c.rest, .int .i64 c.caps, .int .i64 c.max, .slice ai c.ins.length ci] 39) = w4 := ⟨_, rfl⟩
              obtain ⟨hb4, -, hbc4⟩ := Cd.boxC hw4
              obtain ⟨q0, q1, q2, q3, q4⟩ := hbc4 w4 (Below.refl _ _)
              have hgd := good_any p c _ _ _ _ w4 (hpr.below hb4) HW.out (hi.below hb4) hlen
              have HB4 : Hid (Below w1.heap.size w1 w4) := HBR.out.trans (hb4.mono HBR.out.size)
              obtain ⟨p0', p1', p2'⟩ := HBP.out w4 HB4.out
              obtain ⟨E, hE⟩ : ∃ E, E = Cd.good p c := ⟨_, rfl⟩
              rw [← hE] at hgd hno
              have HEE := Lib.hid hE
              have HNO := Lib.hid hno
              clear hc hpr hi hlen hno hb4 hbc4 hE
              cases E with
              | false =>
                have HE : Hid (R = 90) := by show _ = _; rw [HR.out]; exact HNO.out rfl
                clear HR HNO
                go_wp2_with (go_at_call 30; refine hgd.mono ?_; clear hgd; rintro e w9 ⟨rfl, hb9⟩; have HB9 : Hid (Below w1.heap.size w1 w9) := HB4.out.trans (hb9.mono HB4.out.size); clear hb9)
                go_ret
                exact ⟨by rw [HE.out]; rfl, HB1.out.trans (HB9.out.mono HB1.out.size)⟩
              | true =>
                go_wp2_with (go_at_call 30; refine hgd.mono ?_; clear hgd; rintro e w9 ⟨rfl, hb9⟩; have HB9 : Hid (Below w1.heap.size w1 w9) := HB4.out.trans (hb9.mono HB4.out.size); clear hb9)
                go_roundw
                case rel =>
                  refine ⟨k + 1, by simp, by omega, fun i hi hik => ?_, HB9⟩
                  by_cases e : i = k
                  · subst e
                    rw [← HCE.out, ← HEE.out]
                  · exact HK.out i hi (by omega)
                case measure => simp [intOf]; omega
            · have hge : (p.codes.length : Int) ≤ (k : Int) := by omega
              have HE : Hid (R = 0) := by
                show _ = _
                rw [HR.out]
                exact Cd.check_yes HFAR.out HKC.out HKN.out (fun i hi => HK.out i hi (by omega))
              clear hlt HK
              go_wp2
              go_ret
              exact ⟨by rw [HE.out]; rfl, HB1.out.trans (HBR.out.mono HB1.out.size)⟩
end Go.Proofs.Ytlckjphnbfahgaa
