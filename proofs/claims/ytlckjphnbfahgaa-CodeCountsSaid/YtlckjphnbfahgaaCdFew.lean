/-
  shuttleref02.Size, and few: a program's size is told.
-/
import Derived.Test.YtlckjphnbfahgaaCdAt
import Derived.Test.YtlckjphnbfahgaaDtAll
import Derived.Test.YtlckjphnbfahgaaDtEq
namespace Go.Proofs.Ytlckjphnbfahgaa
open Go.RowKit
attribute [local go_sem] Oper.semAt_some
def Cd.sizeD (x : Dt.D) : Nat := if Dt.check x = 0 then (Dt.pre x).length else 0
set_option maxRecDepth 100000 in
set_option maxHeartbeats 4000000 in
theorem rSize_any {F : Nat → Prop} (x : Dt.D) (vm vl vt : Value) (w : World) (hW : Dt.Wf x) (hR : Dt.Rep F w x vm vl vt) :
    Calls Try.prog 21 #[.agg #[.int .i64 x.k, .int .i64 x.n, .string x.s, vm, vl, vt]] w fun e w' => e = .returned (.int .i64 (Cd.sizeD x : Nat)) ∧ Below w.heap.size w w' := by
  have hb0 : Below w.heap.size w (w.alloc (.cells #[.int .i64 x.k, .int .i64 x.n, .string x.s, vm, vl, vt] 55)) := (Below.refl _ _).alloc (Nat.le_refl _) _
  have hw := rAll_any x vm vl vt _ hW (hR.below hb0)
  have HB := Lib.hid hb0
  obtain ⟨a1, n1, q1, a2, n2, q2, a3, n3, q3, rfl, rfl, rfl⟩ := hR.forms
  clear hR hW hb0
  go_enter Try.func21, Try.ntmps21
  go_wp2_with fail
  refine hw.mono ?_
  rintro e w1 ⟨vp, ls, rfl, hK, hp, hd, hl, hb1⟩
  obtain ⟨ap, cp, rfl⟩ := Dt.row_form hK
  have HL : Hid ((ls.length : Int) = (Cd.sizeD x : Nat)) := by
    show _ = _
    unfold Cd.sizeD
    rw [← List.length_map (f := Dt.P.d), hd]
    split <;> rfl
  have HB1 : Hid (Below w.heap.size w w1) := HB.out.trans (hb1.mono HB.out.size)
  clear hw hK hp hd hl hb1
  go_wp2
  go_ret
  exact ⟨by rw [HL.out]; rfl, HB1.out⟩
set_option maxRecDepth 100000 in
set_option maxHeartbeats 8000000 in
theorem few_any {F : Nat → Prop} (p : Cd.Prog) (vc vk vn : Value) (w : World) (hp : Cd.PRep F w p vc vk vn) (hw : Cd.PWf p) :
    Calls Try.prog 8 #[.agg #[vc, vk, vn]] w fun e w' => (∃ b, e = .returned (.bool b)) ∧ Below w.heap.size w w' := by
  obtain ⟨a1, c1, a2, c2, a3, c3, rfl, rfl, rfl⟩ := hp.forms
  obtain ⟨w1, hw1⟩ : ∃ w1, w.alloc (.cells #[.slice a1 p.codes.length c1, .slice a2 p.consts.length c2, .slice a3 p.names.length c3] 26) = w1 := ⟨_, rfl⟩
  obtain ⟨hb1, hs1, hbp⟩ := Cd.boxP hw1
  obtain ⟨p0, p1, p2⟩ := hbp w1 (Below.refl _ _)
  have HP := Lib.hid hp
  have HW := Lib.hid hw
  have HB1 := Lib.hid hb1
  have HS1 := Lib.hid hs1
  have HBP := Lib.hid hbp
  clear hp hw hb1 hs1 hbp
  by_cases l1 : 40 < p.codes.length
  · have l1' : (40 : Int) < (p.codes.length : Int) := by omega
    go_enter Try.func8, Try.ntmps8
    go_wp2
    go_ret
    exact ⟨⟨_, rfl⟩, HB1.out⟩
  have l1' : decide ((40 : Int) < (p.codes.length : Int)) = false := decide_eq_false (by omega)
  by_cases l2 : 60 < p.consts.length
  · have l2' : decide ((60 : Int) < (p.consts.length : Int)) = true := decide_eq_true (by omega)
    clear l1 l2
    go_enter Try.func8, Try.ntmps8
    go_wp2
    go_ret
    exact ⟨⟨_, rfl⟩, HB1.out⟩
  have l2' : decide ((60 : Int) < (p.consts.length : Int)) = false := decide_eq_false (by omega)
  by_cases l3 : 60 < p.names.length
  · have l3' : decide ((60 : Int) < (p.names.length : Int)) = true := decide_eq_true (by omega)
    clear l1 l2 l3
    go_enter Try.func8, Try.ntmps8
    go_wp2
    go_ret
    exact ⟨⟨_, rfl⟩, HB1.out⟩
  have l3' : decide ((60 : Int) < (p.names.length : Int)) = false := decide_eq_false (by omega)
  have hl1 : p.codes.length ≤ 40 := by omega
  have hl2 : p.consts.length ≤ 60 := by omega
  have hl3 : p.names.length ≤ 60 := by omega
  clear l1 l2 l3
  go_enter Try.func8, Try.ntmps8
  go_wp2
  clear l1' l2' l3'
  go_loopw [28] (fun v wr => ∃ k : Nat, v = .int .i64 k ∧ k ≤ p.codes.length ∧ Hid (Below w1.heap.size w1 wr)) (fun v _ => p.codes.length - (intOf v).toNat)
  case atStart => exact ⟨0, rfl, by omega, Below.refl _ _⟩
  case round =>
    obtain ⟨k, rfl, hk, HBR⟩ := hrel
    obtain ⟨p0', p1', p2'⟩ := HBP.out wr HBR.out
    by_cases hlt : k < p.codes.length
    · have hlti : (k : Int) < (p.codes.length : Int) := by omega
      have HB : Hid (Below w.heap.size w wr) := HB1.out.trans (HBR.out.mono HB1.out.size)
      obtain ⟨b, o, rfl, -, -, x0, x1, x2, x3, vi, x4, hi⟩ := Cd.code_at (HP.out.below HB.out).codes k hlt
      obtain ⟨ai, ci, rfl⟩ := hi.form
      obtain ⟨c, hc⟩ : ∃ c, c = p.codes[k] := ⟨_, rfl⟩
      rw [← hc] at x0 x1 x2 x3 x4
      have HBN : Hid (Below w1.heap.size w1 (wr.alloc (.cells #[.int .i64 c.params, .int .i64 c.rest, .int .i64 c.caps, .int .i64 c.max, .slice ai c.ins.length ci] 39))) := HBR.out.alloc HBR.out.size _
      clear hi hc
      by_cases h4 : 400 < c.ins.length
      · have h4' : (400 : Int) < (c.ins.length : Int) := by omega
        go_wp2
        go_ret
        exact ⟨⟨_, rfl⟩, HB1.out.trans (HBN.out.mono HB1.out.size)⟩
      · have h4' : decide ((400 : Int) < (c.ins.length : Int)) = false := decide_eq_false (by omega)
        clear h4
        go_wp2
        go_roundw
        case rel => exact ⟨k + 1, by simp, by omega, HBN⟩
        case measure => simp [intOf]; omega
    · have hge : (p.codes.length : Int) ≤ (k : Int) := by omega
      have hd : decide (k < p.codes.length) = false := decide_eq_false hlt
      have hd' : (k < p.codes.length) = False := eq_false hlt
      clear hlt p0 p1 p2
      go_wp2
      try simp only [hd, hd', decide_false]
      clear hd hd'
      go_loopw [40] (fun v wz => ∃ k : Nat, v = .int .i64 k ∧ k ≤ p.consts.length ∧ Hid (Below w1.heap.size w1 wz)) (fun v _ => p.consts.length - (intOf v).toNat)
      case atStart => exact ⟨0, rfl, by omega, HBR⟩
      case round =>
        clear hge hk p0' p1' p2' HBR
        obtain ⟨k, rfl, hk, HBR⟩ := hrel
        obtain ⟨p0', p1', p2'⟩ := HBP.out _ HBR.out
        by_cases hlt : k < p.consts.length
        · have hlti : (k : Int) < (p.consts.length : Int) := by omega
          have HB : Hid (Below w.heap.size w _) := HB1.out.trans (HBR.out.mono HB1.out.size)
          obtain ⟨b, o, vm, vl, vt, rfl, -, ⟨x0, x1, x2, x3, x4, x5⟩, hrep⟩ := Cd.const_at (HP.out.below HB.out).consts k hlt
          have hwf := Cd.wfs_at HW.out.wk k hlt
          obtain ⟨x, hx⟩ : ∃ x, x = p.consts[k] := ⟨_, rfl⟩
          rw [← hx] at x0 x1 x2 hrep hwf
          obtain ⟨am, cm, al, c_l, at_, ct, rfl, rfl, rfl⟩ : ∃ am cm al c_l at_ ct, vm = .slice am x.m.length cm ∧ vl = .slice al x.l.length c_l ∧ vt = .slice at_ x.t.length ct := by
            obtain ⟨⟨a1, c1, h1, _⟩, ⟨a2, c2, h2, _⟩, ⟨a3, c3, h3, _⟩⟩ := (Dt.rep_iff _ _ x vm vl vt).1 hrep
            exact ⟨_, _, _, _, _, _, h1, h2, h3⟩
          obtain ⟨w4, hw4⟩ : ∃ w4, wr.alloc (.cells #[.int .i64 x.k, .int .i64 x.n, .string x.s, .slice am x.m.length cm, .slice al x.l.length c_l, .slice at_ x.t.length ct] 55) = w4 := ⟨_, rfl⟩
          have hb4 : Below wr.heap.size wr w4 := by rw [← hw4]; exact (Below.refl _ _).alloc (Nat.le_refl _) _
          have hsix := Dt.six_of' wr x (.slice am x.m.length cm) (.slice al x.l.length c_l) (.slice at_ x.t.length ct) 55
          rw [hw4] at hsix
          obtain ⟨z0, z1, z2, z3, z4, z5⟩ := hsix
          simp only [Nat.zero_add] at z0 z1 z2 z3 z4 z5
          have hsz := rSize_any x _ _ _ w4 hwf (hrep.below hb4)
          obtain ⟨Z, hZ⟩ : ∃ Z : Int, Z = (Cd.sizeD x : Nat) := ⟨_, rfl⟩
          rw [← hZ] at hsz
          have HB4 : Hid (Below w1.heap.size w1 w4) := HBR.out.trans (hb4.mono HBR.out.size)
          clear hx hb4 hrep hwf hZ
          by_cases g0 : 1000 < x.s.size
          · have g0' : decide ((1000 : Int) < (x.s.size : Int)) = true := decide_eq_true (by omega)
            clear g0
            go_wp2
            go_ret
            exact ⟨⟨_, rfl⟩, HB1.out.trans (HB4.out.mono HB1.out.size)⟩
          have g0' : decide ((1000 : Int) < (x.s.size : Int)) = false := decide_eq_false (by omega)
          clear g0
          by_cases g1 : 100 < x.m.length
          · have g1' : decide ((100 : Int) < (x.m.length : Int)) = true := decide_eq_true (by omega)
            clear g1
            go_wp2
            go_ret
            exact ⟨⟨_, rfl⟩, HB1.out.trans (HB4.out.mono HB1.out.size)⟩
          have g1' : decide ((100 : Int) < (x.m.length : Int)) = false := decide_eq_false (by omega)
          clear g1
          by_cases g2 : 300 < x.l.length
          · have g2' : decide ((300 : Int) < (x.l.length : Int)) = true := decide_eq_true (by omega)
            clear g2
            go_wp2
            go_ret
            exact ⟨⟨_, rfl⟩, HB1.out.trans (HB4.out.mono HB1.out.size)⟩
          have g2' : decide ((300 : Int) < (x.l.length : Int)) = false := decide_eq_false (by omega)
          clear g2
          by_cases g3 : 10 < x.t.length
          · have g3' : decide ((10 : Int) < (x.t.length : Int)) = true := decide_eq_true (by omega)
            clear g3
            go_wp2
            go_ret
            exact ⟨⟨_, rfl⟩, HB1.out.trans (HB4.out.mono HB1.out.size)⟩
          have g3' : decide ((10 : Int) < (x.t.length : Int)) = false := decide_eq_false (by omega)
          clear g3
          by_cases g5 : 400 < Z
          · go_wp2_with (go_at_call 21; refine hsz.mono ?_; clear hsz; rintro e w9 ⟨rfl, hb9⟩; have HB9 : Hid (Below w1.heap.size w1 w9) := HB4.out.trans (hb9.mono HB4.out.size); clear hb9)
            go_ret
            exact ⟨⟨_, rfl⟩, HB1.out.trans (HB9.out.mono HB1.out.size)⟩
          · have g5' : decide (400 < Z) = false := decide_eq_false g5
            clear g5
            go_wp2_with (go_at_call 21; refine hsz.mono ?_; clear hsz; rintro e w9 ⟨rfl, hb9⟩; have HB9 : Hid (Below w1.heap.size w1 w9) := HB4.out.trans (hb9.mono HB4.out.size); clear hb9)
            go_roundw
            case rel => exact ⟨k + 1, by simp, by omega, HB9⟩
            case measure => simp [intOf]; omega
        · have hge : (p.consts.length : Int) ≤ (k : Int) := by omega
          have hd' : (k < p.consts.length) = False := eq_false hlt
          clear hlt
          go_wp2
          try simp only [hd', decide_false]
          clear hd'
          go_loopw [75] (fun v wz => ∃ k : Nat, v = .int .i64 k ∧ k ≤ p.names.length ∧ Hid (Below w1.heap.size w1 wz)) (fun v _ => p.names.length - (intOf v).toNat)
          case atStart => exact ⟨0, rfl, by omega, HBR⟩
          case round =>
            clear hge hk p0' p1' p2' HBR
            obtain ⟨k, rfl, hk, HBR⟩ := hrel
            by_cases hlt : k < p.names.length
            · have hlti : (k : Int) < (p.names.length : Int) := by omega
              have HB : Hid (Below w.heap.size w _) := HB1.out.trans (HBR.out.mono HB1.out.size)
              obtain ⟨b, o, rfl, -, x0⟩ := Cd.name_at (HP.out.below HB.out).names k hlt
              obtain ⟨x, hx⟩ : ∃ x, x = p.names[k] := ⟨_, rfl⟩
              rw [← hx] at x0
              clear hx
              by_cases g0 : 1000 < x.size
              · have g0' : decide ((1000 : Int) < (x.size : Int)) = true := decide_eq_true (by omega)
                clear g0
                go_wp2
                go_ret
                exact ⟨⟨_, rfl⟩, HB.out⟩
              · have g0' : decide ((1000 : Int) < (x.size : Int)) = false := decide_eq_false (by omega)
                clear g0
                go_wp2
                go_roundw
                case rel => exact ⟨k + 1, by simp, by omega, HBR⟩
                case measure => simp [intOf]; omega
            · have hge : (p.names.length : Int) ≤ (k : Int) := by omega
              clear hlt
              go_wp2
              go_ret
              exact ⟨⟨_, rfl⟩, HB1.out.trans (HBR.out.mono HB1.out.size)⟩
end Go.Proofs.Ytlckjphnbfahgaa
