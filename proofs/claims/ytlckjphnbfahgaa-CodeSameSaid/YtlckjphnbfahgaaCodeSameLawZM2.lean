/-
  Several texts of this proof in one: CdEqC, CdEqK, CdEqP, CdRSame, CdCountsP, CdOwnP, CdSameW.
-/
import Derived.Test.YtlckjphnbfahgaaCodeSameLawZM1
import Derived.Test.YtlckjphnbfahgaaDtSameP
import Derived.Test.YtlckjphnbfahgaaCdModel
import Derived.Lib.QuietBelow
import Derived.Deep.QuietTactic
import Derived.BigQuiet
import Derived.Test.YtlckjphnbfahgaaCdCheckP
import Derived.Test.YtlckjphnbfahgaaCdWaysP
import Derived.Test.YtlckjphnbfahgaaDtOwn
import Derived.Test.YtlckjphnbfahgaaCdCloneW
import Derived.Test.YtlckjphnbfahgaaCdOpen
namespace Go.Proofs.Ytlckjphnbfahgaa
open Go.RowKit
attribute [local go_sem] Oper.semAt_some
namespace Cd
def eqC (c d : Code) : Bool := decide (c.params = d.params) && (decide (c.rest = d.rest) && (decide (c.caps = d.caps) && (decide (c.max = d.max) && decide (c.ins = d.ins))))
end Cd
set_option maxRecDepth 100000 in
set_option maxHeartbeats 4000000 in
theorem codeSame1_any {F G : Nat → Prop} (c d : Cd.Code) (v u : Value) (w : World) (hv : Cd.InsRow F w v c.ins) (hu : Cd.InsRow G w u d.ins) (hl : c.ins.length ≤ 140737488355328) (hl' : d.ins.length ≤ 140737488355328) :
    Calls Try.prog 42 #[.agg #[.int .i64 c.params, .int .i64 c.rest, .int .i64 c.caps, .int .i64 c.max, v], .agg #[.int .i64 d.params, .int .i64 d.rest, .int .i64 d.caps, .int .i64 d.max, u]] w fun e w' => e = .returned (.bool (Cd.eqC c d)) ∧ Below w.heap.size w w' := by
  obtain ⟨w1, hw1⟩ : ∃ w1, w.alloc (.cells #[.int .i64 c.params, .int .i64 c.rest, .int .i64 c.caps, .int .i64 c.max, v] 39) = w1 := ⟨_, rfl⟩
  obtain ⟨w2, hw2⟩ : ∃ w2, w1.alloc (.cells #[.int .i64 d.params, .int .i64 d.rest, .int .i64 d.caps, .int .i64 d.max, u] 39) = w2 := ⟨_, rfl⟩
  obtain ⟨hb1, hs1, h1⟩ := Cd.boxC hw1
  obtain ⟨hb2, hs2, h2⟩ := Cd.boxC hw2
  obtain ⟨x0, x1, x2, x3, x4⟩ := h1 w2 hb2
  obtain ⟨y0, y1, y2, y3, y4⟩ := h2 w2 (Below.refl _ _)
  have HB : Hid (Below w.heap.size w w2) := hb1.trans (hb2.mono hb1.size)
  have hcall := insEqual_any v u c.ins d.ins w2 (hv.below HB.out) (hu.below HB.out) hl hl'
  obtain ⟨R, hR⟩ : ∃ R, R = Cd.eqC c d := ⟨_, rfl⟩
  rw [← hR]
  unfold Cd.eqC at hR
  obtain ⟨Z, hZ⟩ : ∃ Z, w1.heap.size = Z := ⟨_, rfl⟩
  rw [hZ] at y0 y1 y2 y3 y4
  obtain ⟨a, n, rfl⟩ : ∃ a n, v = .slice a c.ins.length n := by obtain ⟨a, n, h, _⟩ := hv; exact ⟨a, n, h⟩
  obtain ⟨a', n', rfl⟩ : ∃ a n, u = .slice a d.ins.length n := by obtain ⟨a, n, h, _⟩ := hu; exact ⟨a, n, h⟩
  clear h1 h2 hb1 hb2 hs1 hs2 hv hu
  by_cases e0 : c.params = d.params
  case neg =>
    have b0 : (c.params == d.params) = false := by simpa using e0
    have HN : Hid (R = false) := by show _ = _; rw [hR, decide_eq_false e0]; rfl
    have D0 : decide (c.params = d.params) = false := decide_eq_false e0
    clear e0 hR hcall
    go_enter Try.func42, Try.ntmps42
    go_wp2
    go_ret
    exact ⟨by rw [HN.out]; rfl, HB.out⟩
  have b0 : (c.params == d.params) = true := by simpa using e0
  have D0 : decide (c.params = d.params) = true := decide_eq_true e0
  rw [D0, Bool.true_and] at hR
  clear e0
  by_cases e1 : c.rest = d.rest
  case neg =>
    have b1 : (c.rest == d.rest) = false := by simpa using e1
    have HN : Hid (R = false) := by show _ = _; rw [hR, decide_eq_false e1]; rfl
    have D1 : decide (c.rest = d.rest) = false := decide_eq_false e1
    clear e1 hR hcall
    go_enter Try.func42, Try.ntmps42
    go_wp2
    go_ret
    exact ⟨by rw [HN.out]; rfl, HB.out⟩
  have b1 : (c.rest == d.rest) = true := by simpa using e1
  have D1 : decide (c.rest = d.rest) = true := decide_eq_true e1
  rw [D1, Bool.true_and] at hR
  clear e1
  by_cases e2 : c.caps = d.caps
  case neg =>
    have b2 : (c.caps == d.caps) = false := by simpa using e2
    have HN : Hid (R = false) := by show _ = _; rw [hR, decide_eq_false e2]; rfl
    have D2 : decide (c.caps = d.caps) = false := decide_eq_false e2
    clear e2 hR hcall
    go_enter Try.func42, Try.ntmps42
    go_wp2
    go_ret
    exact ⟨by rw [HN.out]; rfl, HB.out⟩
  have b2 : (c.caps == d.caps) = true := by simpa using e2
  have D2 : decide (c.caps = d.caps) = true := decide_eq_true e2
  rw [D2, Bool.true_and] at hR
  clear e2
  by_cases e3 : c.max = d.max
  case neg =>
    have b3 : (c.max == d.max) = false := by simpa using e3
    have HN : Hid (R = false) := by show _ = _; rw [hR, decide_eq_false e3]; rfl
    have D3 : decide (c.max = d.max) = false := decide_eq_false e3
    clear e3 hR hcall
    go_enter Try.func42, Try.ntmps42
    go_wp2
    go_ret
    exact ⟨by rw [HN.out]; rfl, HB.out⟩
  have b3 : (c.max == d.max) = true := by simpa using e3
  have D3 : decide (c.max = d.max) = true := decide_eq_true e3
  rw [D3, Bool.true_and] at hR
  clear e3
  have HN : Hid (R = decide (c.ins = d.ins)) := hR
  obtain ⟨V, hV⟩ : ∃ V, decide (c.ins = d.ins) = V := ⟨_, rfl⟩
  rw [hV] at hcall HN
  clear hR hV
  go_enter Try.func42, Try.ntmps42
  go_wp2_with (go_at_call 43; refine hcall.mono ?_; clear hcall; rintro e w3 ⟨rfl, hb3⟩; have HB3 := Lib.hid hb3; clear hb3)
  go_ret
  exact ⟨by rw [HN.out]; rfl, HB.out.trans (HB3.out.mono HB.out.size)⟩
namespace Cd
def eqCs : List Code → List Code → Bool
  | [], [] => true
  | c :: l, d :: r => eqC c d && eqCs l r
  | _, _ => false
theorem eqCs_len : ∀ (l r : List Code), l.length ≠ r.length → eqCs l r = false
  | [], [], h => absurd rfl h
  | [], _ :: _, _ => rfl
  | _ :: _, [], _ => rfl
  | a :: l, b :: r, h => by rw [eqCs, eqCs_len l r (by simpa using h), Bool.and_false]
end Cd
set_option maxRecDepth 100000 in
set_option maxHeartbeats 4000000 in
theorem eqFuncC_any {F G : Nat → Prop} (va vb : Value) (l r : List Cd.Code) (w : World) (ha : Cd.CodeRow F w va l) (hb : Cd.CodeRow G w vb r) (hl : l.length ≤ 140737488355328) (_hl' : r.length ≤ 140737488355328) (hW : ∀ c ∈ l, c.ins.length ≤ 140737488355328) (hW' : ∀ c ∈ r, c.ins.length ≤ 140737488355328) :
    Calls Try.prog 41 #[va, vb, .func (.func 42) #[] #[]] w fun e w' => e = .returned (.bool (Cd.eqCs l r)) ∧ Below w.heap.size w w' := by
  have HA := Lib.hid ha
  have HA' := Lib.hid hb
  obtain ⟨a, c, rfl, _, _⟩ := ha
  obtain ⟨a', c', rfl, _, _⟩ := hb
  obtain ⟨R, hR⟩ : ∃ R, R = Cd.eqCs l r := ⟨_, rfl⟩
  rw [← hR]
  by_cases hlen : l.length = r.length
  case neg =>
    have hne : ((l.length : Int) != (r.length : Int)) = true := by simpa using fun h => hlen (by omega)
    have HR : Hid (R = false) := by show _ = _; rw [hR]; exact Cd.eqCs_len _ _ hlen
    clear hR hlen
    go_enter Try.func41, Try.ntmps41
    go_wp2
    go_ret
    exact ⟨by rw [HR.out]; rfl, Below.refl _ _⟩
  have hne : ((l.length : Int) != (r.length : Int)) = false := by simp [hlen]
  have H0 : Hid (R = Cd.eqCs (l.drop 0) (r.drop 0)) := by show _ = _; rw [List.drop_zero, List.drop_zero]; exact hR
  have HL := Lib.hid hlen
  have HW := Lib.hid hW
  have HW' := Lib.hid hW'
  clear hR hlen hW hW'
  go_enter Try.func41, Try.ntmps41
  go_wp2
  go_loopw [17] (fun v wr => ∃ k : Nat, v = .int .i64 k ∧ k ≤ l.length ∧ Hid (R = Cd.eqCs (l.drop k) (r.drop k)) ∧ Hid (Below w.heap.size w wr)) (fun v _ => l.length - (intOf v).toNat)
  case atStart => exact ⟨0, rfl, by omega, H0, Below.refl _ _⟩
  case round =>
    obtain ⟨k, rfl, hk, HR, HB⟩ := hrel
    by_cases hlt : k < l.length
    · have hlti : (k : Int) < (l.length : Int) := by omega
      have hlt' : k < r.length := by have := HL.out; omega
      have hlti' : (k : Int) < (r.length : Int) := by omega
      obtain ⟨b, o, rfl, _, hbl, x0, x1, x2, x3, v, x4, hv⟩ := Cd.code_at (HA.out.below HB.out) k hlt
      obtain ⟨b', o', rfl, _, hbl', y0, y1, y2, y3, u, y4, hu⟩ := Cd.code_at (HA'.out.below HB.out) k hlt'
      have hr := HR.out
      rw [List.drop_eq_getElem_cons hlt, List.drop_eq_getElem_cons hlt', Cd.eqCs] at hr
      have hwf := HW.out l[k] (List.getElem_mem hlt)
      have hwf' := HW'.out r[k] (List.getElem_mem hlt')
      obtain ⟨y, hyy⟩ : ∃ y, l[k] = y := ⟨_, rfl⟩
      obtain ⟨z, hzz⟩ : ∃ z, r[k] = z := ⟨_, rfl⟩
      rw [hyy] at x0 x1 x2 x3 hv hr hwf
      rw [hzz] at y0 y1 y2 y3 hu hr hwf'
      obtain ⟨a1, n1, rfl⟩ := hv.form
      obtain ⟨d1, p1, rfl⟩ := hu.form
      obtain ⟨wc, hwc⟩ : ∃ wc, wr.alloc (.cells #[.int .i64 y.params, .int .i64 y.rest, .int .i64 y.caps, .int .i64 y.max, .slice a1 y.ins.length n1] 39) = wc := ⟨_, rfl⟩
      obtain ⟨wd, hwd⟩ : ∃ wd, wc.alloc (.cells #[.int .i64 z.params, .int .i64 z.rest, .int .i64 z.caps, .int .i64 z.max, .slice d1 z.ins.length p1] 39) = wd := ⟨_, rfl⟩
      obtain ⟨hb1, hs1, h1⟩ := Cd.boxC hwc
      obtain ⟨hb2, hs2, h2⟩ := Cd.boxC hwd
      obtain ⟨s0, s1, s2, s3, s4⟩ := h1 wd hb2
      obtain ⟨t0, t1, t2, t3, t4⟩ := h2 wd (Below.refl _ _)
      have hbd : Below wr.heap.size wr wd := hb1.trans (hb2.mono hb1.size)
      have z0 := (hb1.cell (p := ⟨b', o' + k * 5, none⟩) hbl').trans y0
      have z1 := (hb1.cell (p := ⟨b', o' + k * 5 + 1, none⟩) hbl').trans y1
      have z2 := (hb1.cell (p := ⟨b', o' + k * 5 + 2, none⟩) hbl').trans y2
      have z3 := (hb1.cell (p := ⟨b', o' + k * 5 + 3, none⟩) hbl').trans y3
      have z4 := (hb1.cell (p := ⟨b', o' + k * 5 + 4, none⟩) hbl').trans y4
      have hcall := codeSame1_any y z _ _ wd (hv.below hbd) (hu.below hbd) hwf hwf'
      obtain ⟨V, hV⟩ : ∃ V, Cd.eqC y z = V := ⟨_, rfl⟩
      rw [hV] at hcall hr
      have HCALL := Lib.hid hcall
      have HBD : Hid (Below w.heap.size w wd) := HB.out.trans (hbd.mono HB.out.size)
      have HRR := Lib.hid hr
      obtain ⟨YB, hYB⟩ : ∃ YB, wr.heap.size = YB := ⟨_, rfl⟩
      obtain ⟨ZB, hZB⟩ : ∃ ZB, wc.heap.size = ZB := ⟨_, rfl⟩
      rw [hYB] at s0 s1 s2 s3 s4
      rw [hZB] at t0 t1 t2 t3 t4
      clear hcall hr hwf hwf' hv hu hb1 hb2 hs1 hs2 h1 h2 hbd hV hyy hzz y0 y1 y2 y3 y4 hbl hbl'
      cases V with
      | false =>
        have HN : Hid (R = false) := by show _ = _; rw [HRR.out]; rfl
        clear HRR
        go_wp2_with (go_at_call 42; refine HCALL.out.mono ?_; rintro e w9 ⟨rfl, hb9⟩; have HB9 : Hid (Below w.heap.size w w9) := HBD.out.trans (hb9.mono HBD.out.size); clear hb9 HCALL HBD hwc hwd hYB hZB s0 s1 s2 s3 s4 t0 t1 t2 t3 t4 x0 x1 x2 x3 x4 z0 z1 z2 z3 z4)
        go_ret
        exact ⟨by rw [HN.out]; rfl, HB9.out⟩
      | true =>
        have HN : Hid (R = Cd.eqCs (l.drop (k + 1)) (r.drop (k + 1))) := by show _ = _; rw [HRR.out]; rfl
        clear HRR
        go_wp2_with (go_at_call 42; refine HCALL.out.mono ?_; rintro e w9 ⟨rfl, hb9⟩; have HB9 : Hid (Below w.heap.size w w9) := HBD.out.trans (hb9.mono HBD.out.size); clear hb9 HCALL HBD hwc hwd hYB hZB s0 s1 s2 s3 s4 t0 t1 t2 t3 t4 x0 x1 x2 x3 x4 z0 z1 z2 z3 z4)
        go_roundw
        case rel => exact ⟨k + 1, by simp, by omega, HN, HB9⟩
        case measure => simp [intOf]; omega
    · have hge : (l.length : Int) ≤ (k : Int) := by omega
      have HN : Hid (R = true) := by show _ = _; rw [HR.out, List.drop_eq_nil_of_le (by omega), List.drop_eq_nil_of_le (by have := HL.out; omega)]; rfl
      go_wp2
      go_ret
      exact ⟨by rw [HN.out]; rfl, HB.out⟩
end Go.Proofs.Ytlckjphnbfahgaa
namespace Go.Proofs.Ytlckjphnbfahgaa
open Go.RowKit
attribute [local go_sem] Oper.semAt_some
namespace Cd
def sameDs : List Dt.D → List Dt.D → Bool
  | [], [] => true
  | c :: l, d :: r => Dt.sameD c d && sameDs l r
  | _, _ => false
theorem sameDs_len : ∀ (l r : List Dt.D), l.length ≠ r.length → sameDs l r = false
  | [], [], h => absurd rfl h
  | [], _ :: _, _ => rfl
  | _ :: _, [], _ => rfl
  | a :: l, b :: r, h => by rw [sameDs, sameDs_len l r (by simpa using h), Bool.and_false]
end Cd
set_option maxRecDepth 100000 in
set_option maxHeartbeats 4000000 in
theorem eqFuncK_any {F G : Nat → Prop} (va vb : Value) (l r : List Dt.D) (w : World) (ha : Dt.Row F w va l) (hb : Dt.Row G w vb r) (hl : l.length ≤ 140737488355328) (_hl' : r.length ≤ 140737488355328) (hW : Dt.Wfs l) (hW' : Dt.Wfs r) :
    Calls Try.prog 39 #[va, vb, .func (.func 27) #[] #[]] w fun e w' => e = .returned (.bool (Cd.sameDs l r)) ∧ Below w.heap.size w w' := by
  obtain ⟨a, c, rfl, _, hc⟩ := ha
  obtain ⟨a', c', rfl, _, hc'⟩ := hb
  obtain ⟨R, hR⟩ : ∃ R, R = Cd.sameDs l r := ⟨_, rfl⟩
  rw [← hR]
  by_cases hlen : l.length = r.length
  case neg =>
    have hne : ((l.length : Int) != (r.length : Int)) = true := by simpa using fun h => hlen (by omega)
    have HR : Hid (R = false) := by show _ = _; rw [hR]; exact Cd.sameDs_len _ _ hlen
    clear hc hc' hR hlen
    go_enter Try.func39, Try.ntmps39
    go_wp2
    go_ret
    exact ⟨by rw [HR.out]; rfl, Below.refl _ _⟩
  have hne : ((l.length : Int) != (r.length : Int)) = false := by simp [hlen]
  have H0 : Hid (R = Cd.sameDs (l.drop 0) (r.drop 0)) := by show _ = _; rw [List.drop_zero, List.drop_zero]; exact hR
  have HC := Lib.hid hc
  have HC' := Lib.hid hc'
  have HL := Lib.hid hlen
  have HW := Lib.hid hW
  have HW' := Lib.hid hW'
  clear hc hc' hR hlen hW hW'
  go_enter Try.func39, Try.ntmps39
  go_wp2
  go_loopw [17] (fun v wr => ∃ k : Nat, v = .int .i64 k ∧ k ≤ l.length ∧ Hid (R = Cd.sameDs (l.drop k) (r.drop k)) ∧ Hid (Below w.heap.size w wr)) (fun v _ => l.length - (intOf v).toNat)
  case atStart => exact ⟨0, rfl, by omega, H0, Below.refl _ _⟩
  case round =>
    obtain ⟨k, rfl, hk, HR, HB⟩ := hrel
    by_cases hlt : k < l.length
    · have hlti : (k : Int) < (l.length : Int) := by omega
      have hlt' : k < r.length := by have := HL.out; omega
      have hlti' : (k : Int) < (r.length : Int) := by omega
      obtain ⟨b, o, hao, hFb, hbl, hreps⟩ := HC.out (by intro h0; rw [h0] at hlt; simp at hlt)
      obtain ⟨b', o', hao', hFb', hbl', hreps'⟩ := HC'.out (by intro h0; rw [h0] at hlt'; simp at hlt')
      subst hao hao'
      have hkp : Keep (fun _ => False) w wr := (Keep.refl _ w).below HB.out
      obtain ⟨vm, vl, vt, hs, hrp⟩ := (Dt.Reps.keep hkp (fun k hk _ h => h) _ hFb hbl hreps).at k hlt
      obtain ⟨um, ul, ut, hs', hrp'⟩ := (Dt.Reps.keep hkp (fun k hk _ h => h) _ hFb' hbl' hreps').at k hlt'
      obtain ⟨a1, n1, c1, a2, n2, c2, a3, n3, c3, rfl, rfl, rfl⟩ := hrp.forms
      obtain ⟨d1, p1, q1, d2, p2, q2, d3, p3, q3, rfl, rfl, rfl⟩ := hrp'.forms
      have hr := HR.out
      rw [List.drop_eq_getElem_cons hlt, List.drop_eq_getElem_cons hlt', Cd.sameDs] at hr
      have hwf := HW.out.at k hlt
      have hwf' := HW'.out.at k hlt'
      obtain ⟨y, hyy⟩ : ∃ y, l[k] = y := ⟨_, rfl⟩
      obtain ⟨z, hzz⟩ : ∃ z, r[k] = z := ⟨_, rfl⟩
      rw [hyy] at hs hrp hr hwf
      rw [hzz] at hs' hrp' hr hwf'
      obtain ⟨y0, y1, y2, y3, y4, y5⟩ := hs
      obtain ⟨wc, hwc⟩ : ∃ wc, wr.alloc (.cells #[.int .i64 y.k, .int .i64 y.n, .string y.s, .slice a1 n1 c1, .slice a2 n2 c2, .slice a3 n3 c3] 55) = wc := ⟨_, rfl⟩
      have hbc : Below wr.heap.size wr wc := by rw [← hwc]; exact (Below.refl _ _).alloc (Nat.le_refl _) _
      obtain ⟨z0, z1, z2, z3, z4, z5⟩ := hs'.keep (S := fun _ => False) ((Keep.refl _ _).below hbc) (Nat.lt_of_lt_of_le hbl' HB.out.size) id
      obtain ⟨wd, hwd⟩ : ∃ wd, wc.alloc (.cells #[.int .i64 z.k, .int .i64 z.n, .string z.s, .slice d1 p1 q1, .slice d2 p2 q2, .slice d3 p3 q3] 55) = wd := ⟨_, rfl⟩
      have hbd : Below wc.heap.size wc wd := by rw [← hwd]; exact (Below.refl _ _).alloc (Nat.le_refl _) _
      have hcall := dSame_any y z _ _ _ _ _ _ wd hwf hwf' ((hrp.below hbc).below hbd) ((hrp'.below hbc).below hbd)
      obtain ⟨V, hV⟩ : ∃ V, Dt.sameD y z = V := ⟨_, rfl⟩
      rw [hV] at hcall hr
      have HCALL := Lib.hid hcall
      have HBD : Hid (Below w.heap.size w wd) := (HB.out.trans (hbc.mono HB.out.size)).trans (hbd.mono (Nat.le_trans HB.out.size hbc.size))
      have HRR := Lib.hid hr
      have HBD2 := Lib.hid hbd
      have hltc : wr.heap.size < wc.heap.size := by rw [← hwc, World.size_alloc]; omega
      clear hcall hr hwf hwf' hrp hrp' hreps hreps' hkp hyy hzz hbc hbd hFb hFb' hbl hbl' hV
      obtain ⟨YB, hYB⟩ : ∃ YB, wr.heap.size = YB := ⟨_, rfl⟩
      obtain ⟨ZB, hZB⟩ : ∃ ZB, wc.heap.size = ZB := ⟨_, rfl⟩
      have hsy : Dt.Six wd YB 0 y (.slice a1 n1 c1) (.slice a2 n2 c2) (.slice a3 n3 c3) := by
        have h := Dt.six_of' wr y (.slice a1 n1 c1) (.slice a2 n2 c2) (.slice a3 n3 c3) 55
        rw [hwc, hYB] at h
        exact h.keep (S := fun _ => False) ((Keep.refl _ _).below HBD2.out) (by rw [← hYB]; exact hltc) id
      have hsz : Dt.Six wd ZB 0 z (.slice d1 p1 q1) (.slice d2 p2 q2) (.slice d3 p3 q3) := by
        have h := Dt.six_of' wc z (.slice d1 p1 q1) (.slice d2 p2 q2) (.slice d3 p3 q3) 55
        rw [hwd, hZB] at h
        exact h
      obtain ⟨s0, s1, s2, s3, s4, s5⟩ := hsy
      obtain ⟨t0, t1, t2, t3, t4, t5⟩ := hsz
      simp only [Nat.zero_add] at s0 s1 s2 s3 s4 s5 t0 t1 t2 t3 t4 t5
      clear hltc
      cases V with
      | false =>
        have HN : Hid (R = false) := by show _ = _; rw [HRR.out]; rfl
        clear HRR
        go_wp2_with (go_at_call 27; refine HCALL.out.mono ?_; rintro e w9 ⟨rfl, hb9⟩; have HB9 : Hid (Below w.heap.size w w9) := HBD.out.trans (hb9.mono HBD.out.size); clear hb9 HCALL HBD HBD2 hwc hwd hYB hZB s0 s1 s2 s3 s4 s5 t0 t1 t2 t3 t4 t5 y0 y1 y2 y3 y4 y5 z0 z1 z2 z3 z4 z5)
        go_ret
        exact ⟨by rw [HN.out]; rfl, HB9.out⟩
      | true =>
        have HN : Hid (R = Cd.sameDs (l.drop (k + 1)) (r.drop (k + 1))) := by show _ = _; rw [HRR.out]; rfl
        clear HRR
        go_wp2_with (go_at_call 27; refine HCALL.out.mono ?_; rintro e w9 ⟨rfl, hb9⟩; have HB9 : Hid (Below w.heap.size w w9) := HBD.out.trans (hb9.mono HBD.out.size); clear hb9 HCALL HBD HBD2 hwc hwd hYB hZB s0 s1 s2 s3 s4 s5 t0 t1 t2 t3 t4 t5 y0 y1 y2 y3 y4 y5 z0 z1 z2 z3 z4 z5)
        go_roundw
        case rel => exact ⟨k + 1, by simp, by omega, HN, HB9⟩
        case measure => simp [intOf]; omega
    · have hge : (l.length : Int) ≤ (k : Int) := by omega
      have HN : Hid (R = true) := by show _ = _; rw [HR.out, List.drop_eq_nil_of_le (by omega), List.drop_eq_nil_of_le (by have := HL.out; omega)]; rfl
      go_wp2
      go_ret
      exact ⟨by rw [HN.out]; rfl, HB.out⟩
end Go.Proofs.Ytlckjphnbfahgaa
namespace Go.Proofs.Ytlckjphnbfahgaa
open Go.RowKit
attribute [local go_sem] Oper.semAt_some
namespace Cd
def samePr (p q : Prog) : Bool := sameDs p.consts q.consts && (decide (p.names = q.names) && eqCs p.codes q.codes)
end Cd
set_option maxRecDepth 100000 in
set_option maxHeartbeats 4000000 in
theorem cSame_any {F G : Nat → Prop} (p q : Cd.Prog) (vc vk vn uc uk un : Value) (w : World) (hp : Cd.PRep F w p vc vk vn) (hq : Cd.PRep G w q uc uk un) (hw : Cd.PWf p) (hw' : Cd.PWf q) :
    Calls Try.prog 16 #[.agg #[vc, vk, vn], .agg #[uc, uk, un]] w fun e w' => e = .returned (.bool (Cd.samePr p q)) ∧ Below w.heap.size w w' := by
  obtain ⟨a1, c1, a2, c2, a3, c3, rfl, rfl, rfl⟩ := hp.forms
  obtain ⟨b1, d1, b2, d2, b3, d3, rfl, rfl, rfl⟩ := hq.forms
  obtain ⟨w1, hw1⟩ : ∃ w1, w.alloc (.cells #[.slice a1 p.codes.length c1, .slice a2 p.consts.length c2, .slice a3 p.names.length c3] 26) = w1 := ⟨_, rfl⟩
  obtain ⟨w2, hw2⟩ : ∃ w2, w1.alloc (.cells #[.slice b1 q.codes.length d1, .slice b2 q.consts.length d2, .slice b3 q.names.length d3] 26) = w2 := ⟨_, rfl⟩
  obtain ⟨hb1, hs1, h1⟩ := Cd.boxP hw1
  obtain ⟨hb2, hs2, h2⟩ := Cd.boxP hw2
  have HB : Hid (Below w.heap.size w w2) := hb1.trans (hb2.mono hb1.size)
  have hk := fun u (hu : Below w2.heap.size w2 u) => eqFuncK_any _ _ p.consts q.consts u ((hp.consts.below HB.out).below hu) ((hq.consts.below HB.out).below hu) hw.lk hw'.lk hw.wk hw'.wk
  have hn := fun u (hu : Below w2.heap.size w2 u) => sEqual_any _ _ p.names q.names u ((hp.names.below HB.out).below hu) ((hq.names.below HB.out).below hu) hw.ln hw'.ln
  have hc := fun u (hu : Below w2.heap.size w2 u) => eqFuncC_any _ _ p.codes q.codes u ((hp.codes.below HB.out).below hu) ((hq.codes.below HB.out).below hu) hw.lc hw'.lc (fun c h => (hw.wc c h).2.2.2.2.1) (fun c h => (hw'.wc c h).2.2.2.2.1)
  have h1' := fun u (hu : Below w2.heap.size w2 u) => h1 u (hb2.trans (hu.mono hb2.size))
  obtain ⟨Z, hZ⟩ : ∃ Z, w1.heap.size = Z := ⟨_, rfl⟩
  rw [hZ] at h2
  have H1 := Lib.hid h1'
  have H2 := Lib.hid h2
  have HB2 : Hid (Below w2.heap.size w2 w2) := Below.refl _ _
  obtain ⟨x0, x1, x2⟩ := H1.out _ HB2.out
  obtain ⟨y0, y1, y2⟩ := H2.out _ HB2.out
  obtain ⟨R, hR⟩ : ∃ R, R = Cd.samePr p q := ⟨_, rfl⟩
  rw [← hR]
  unfold Cd.samePr at hR
  obtain ⟨K, hK⟩ : ∃ K, Cd.sameDs p.consts q.consts = K := ⟨_, rfl⟩
  obtain ⟨N, hN⟩ : ∃ N, decide (p.names = q.names) = N := ⟨_, rfl⟩
  obtain ⟨C, hC⟩ : ∃ C, Cd.eqCs p.codes q.codes = C := ⟨_, rfl⟩
  rw [hK] at hk hR
  rw [hN] at hn hR
  rw [hC] at hc hR
  clear h1 h2 h1' hb1 hb2 hs1 hs2 hp hq hw hw' hK hN hC
  cases K with
  | false =>
    have HN : Hid (R = false) := hR
    clear hR hn hc
    go_enter Try.func16, Try.ntmps16
    go_wp2_with (first | (go_at_call 39; refine (hk _ HB2.out).mono ?_; clear hk x0 x1 x2 y0 y1 y2; rintro e w3 ⟨rfl, hb3⟩; have HB3 : Hid (Below w2.heap.size w2 w3) := HB2.out.trans (hb3.mono HB2.out.size); clear hb3; obtain ⟨x0, x1, x2⟩ := H1.out _ HB3.out; obtain ⟨y0, y1, y2⟩ := H2.out _ HB3.out) | fail)
    go_ret
    exact ⟨by rw [HN.out]; rfl, HB.out.trans (HB3.out.mono HB.out.size)⟩
  | true =>
    cases N with
    | false =>
      have HN : Hid (R = false) := hR
      clear hR hc
      go_enter Try.func16, Try.ntmps16
      go_wp2_with (first | (go_at_call 39; refine (hk _ HB2.out).mono ?_; clear hk x0 x1 x2 y0 y1 y2; rintro e w3 ⟨rfl, hb3⟩; have HB3 : Hid (Below w2.heap.size w2 w3) := HB2.out.trans (hb3.mono HB2.out.size); clear hb3; obtain ⟨x0, x1, x2⟩ := H1.out _ HB3.out; obtain ⟨y0, y1, y2⟩ := H2.out _ HB3.out) | (go_at_call 40; refine (hn _ HB3.out).mono ?_; clear hn x0 x1 x2 y0 y1 y2; rintro e w4 ⟨rfl, hb4⟩; have HB4 : Hid (Below w2.heap.size w2 w4) := HB3.out.trans (hb4.mono HB3.out.size); clear hb4; obtain ⟨x0, x1, x2⟩ := H1.out _ HB4.out; obtain ⟨y0, y1, y2⟩ := H2.out _ HB4.out) | fail)
      go_ret
      exact ⟨by rw [HN.out]; rfl, HB.out.trans (HB4.out.mono HB.out.size)⟩
    | true =>
      have HN : Hid (R = C) := hR
      clear hR
      go_enter Try.func16, Try.ntmps16
      go_wp2_with (first | (go_at_call 39; refine (hk _ HB2.out).mono ?_; clear hk x0 x1 x2 y0 y1 y2; rintro e w3 ⟨rfl, hb3⟩; have HB3 : Hid (Below w2.heap.size w2 w3) := HB2.out.trans (hb3.mono HB2.out.size); clear hb3; obtain ⟨x0, x1, x2⟩ := H1.out _ HB3.out; obtain ⟨y0, y1, y2⟩ := H2.out _ HB3.out) | (go_at_call 40; refine (hn _ HB3.out).mono ?_; clear hn x0 x1 x2 y0 y1 y2; rintro e w4 ⟨rfl, hb4⟩; have HB4 : Hid (Below w2.heap.size w2 w4) := HB3.out.trans (hb4.mono HB3.out.size); clear hb4; obtain ⟨x0, x1, x2⟩ := H1.out _ HB4.out; obtain ⟨y0, y1, y2⟩ := H2.out _ HB4.out) | (go_at_call 41; refine (hc _ HB4.out).mono ?_; clear hc x0 x1 x2 y0 y1 y2; rintro e w5 ⟨rfl, hb5⟩; have HB5 : Hid (Below w2.heap.size w2 w5) := HB4.out.trans (hb5.mono HB4.out.size); clear hb5; obtain ⟨x0, x1, x2⟩ := H1.out _ HB5.out; obtain ⟨y0, y1, y2⟩ := H2.out _ HB5.out) | fail)
      go_ret
      exact ⟨by rw [HN.out]; rfl, HB.out.trans (HB5.out.mono HB.out.size)⟩
end Go.Proofs.Ytlckjphnbfahgaa
namespace Go.Proofs.Ytlckjphnbfahgaa
open Go.RowKit Go.Sort
attribute [local go_sem] Oper.semAt_some
set_option maxRecDepth 100000 in
set_option maxHeartbeats 8000000 in
theorem rSameP_any {F G : Nat → Prop} (p q : Cd.Prog) (vc vk vn uc uk un : Value) (w : World) (hp : Cd.PRep F w p vc vk vn) (hq : Cd.PRep G w q uc uk un) (hw : Cd.PWf p) (hw' : Cd.PWf q) :
    Calls Try.prog 17 #[.agg #[vc, vk, vn], .agg #[uc, uk, un]] w fun e w' => e = .returned (.bool (Cd.samePr p q)) ∧ Below w.heap.size w w' := by
  obtain ⟨a1, c1, a2, c2, a3, c3, rfl, rfl, rfl⟩ := hp.forms
  obtain ⟨b1, d1, b2, d2, b3, d3, rfl, rfl, rfl⟩ := hq.forms
  obtain ⟨w1, hw1⟩ : ∃ w1, w.alloc (.cells #[.slice a1 p.codes.length c1, .slice a2 p.consts.length c2, .slice a3 p.names.length c3] 26) = w1 := ⟨_, rfl⟩
  obtain ⟨w2, hw2⟩ : ∃ w2, w1.alloc (.cells #[.slice b1 q.codes.length d1, .slice b2 q.consts.length d2, .slice b3 q.names.length d3] 26) = w2 := ⟨_, rfl⟩
  obtain ⟨hb1, hs1, h1⟩ := Cd.boxP hw1
  obtain ⟨hb2, hs2, h2⟩ := Cd.boxP hw2
  have HB : Hid (Below w.heap.size w w2) := hb1.trans (hb2.mono hb1.size)
  have HP : Hid (Cd.PRep F w2 p _ _ _) := hp.below HB.out
  have HQ : Hid (Cd.PRep G w2 q _ _ _) := hq.below HB.out
  have HW := Lib.hid hw
  have HW' := Lib.hid hw'
  have bk := hw.lk
  have bn := hw.ln
  have bc := hw.lc
  have h1' := fun u (hu : Below w2.heap.size w2 u) => h1 u (hb2.trans (hu.mono hb2.size))
  obtain ⟨X, hX⟩ : ∃ X, w.heap.size = X := ⟨_, rfl⟩
  obtain ⟨Z, hZ⟩ : ∃ Z, w1.heap.size = Z := ⟨_, rfl⟩
  have H1 := Lib.hid h1'
  have H2 := Lib.hid h2
  obtain ⟨x0, x1, x2⟩ := H1.out _ (Below.refl _ _)
  obtain ⟨y0, y1, y2⟩ := H2.out _ (Below.refl _ _)
  rw [hZ] at y0 y1 y2
  obtain ⟨R, hR⟩ : ∃ R, R = Cd.samePr p q := ⟨_, rfl⟩
  rw [← hR]
  unfold Cd.samePr at hR
  clear h1 h2 h1' hb1 hb2 hs1 hs2 hp hq hw hw' hX
  by_cases l0 : p.codes.length = q.codes.length
  case neg =>
    have n0 : ((p.codes.length : Int) != (q.codes.length : Int)) = true := by simpa using fun h => l0 (by omega)
    have HN : Hid (R = false) := by show _ = _; rw [hR, Cd.eqCs_len _ _ l0, Bool.and_false, Bool.and_false]
    clear hR l0
    go_enter Try.func17, Try.ntmps17
    go_wp2
    go_ret
    exact ⟨by rw [HN.out]; rfl, HB.out⟩
  have n0 : ((p.codes.length : Int) != (q.codes.length : Int)) = false := by simp [l0]
  by_cases l1 : p.consts.length = q.consts.length
  case neg =>
    have n1 : ((p.consts.length : Int) != (q.consts.length : Int)) = true := by simpa using fun h => l1 (by omega)
    have HN : Hid (R = false) := by show _ = _; rw [hR, Cd.sameDs_len _ _ l1, Bool.false_and]
    clear hR l0 l1
    go_enter Try.func17, Try.ntmps17
    go_wp2
    go_ret
    exact ⟨by rw [HN.out]; rfl, HB.out⟩
  have n1 : ((p.consts.length : Int) != (q.consts.length : Int)) = false := by simp [l1]
  by_cases l2 : p.names.length = q.names.length
  case neg =>
    have n2 : ((p.names.length : Int) != (q.names.length : Int)) = true := by simpa using fun h => l2 (by omega)
    have HN : Hid (R = false) := by show _ = _; rw [hR, show decide (p.names = q.names) = false from decide_eq_false (fun e => l2 (by rw [e])), Bool.false_and, Bool.and_false]
    clear hR l0 l1 l2
    go_enter Try.func17, Try.ntmps17
    go_wp2
    go_ret
    exact ⟨by rw [HN.out]; rfl, HB.out⟩
  have n2 : ((p.names.length : Int) != (q.names.length : Int)) = false := by simp [l2]
  have HL0 := Lib.hid l0
  have HL1 := Lib.hid l1
  have HL2 := Lib.hid l2
  have H0 : Hid (R = (Cd.sameDs (p.consts.drop 0) (q.consts.drop 0) && (decide (p.names = q.names) && Cd.eqCs p.codes q.codes))) := by show _ = _; rw [List.drop_zero, List.drop_zero]; exact hR
  clear hR l0 l1 l2
  go_enter Try.func17, Try.ntmps17
  go_wp2
  go_loopw [5] (fun v wr => ∃ k : Nat, v = .int .i64 k ∧ k ≤ p.consts.length ∧ Hid (R = (Cd.sameDs (p.consts.drop k) (q.consts.drop k) && (decide (p.names = q.names) && Cd.eqCs p.codes q.codes))) ∧ Hid (Below w2.heap.size w2 wr)) (fun v _ => p.consts.length - (intOf v).toNat)
  case atStart => exact ⟨0, rfl, by omega, H0, Below.refl _ _⟩
  case round =>
    obtain ⟨k, rfl, hk, HR, HB2⟩ := hrel
    clear x0 x1 x2 y0 y1 y2
    obtain ⟨x0, x1, x2⟩ := H1.out _ HB2.out
    obtain ⟨y0, y1, y2⟩ := H2.out _ HB2.out
    rw [hZ] at y0 y1 y2
    by_cases hlt : k < p.consts.length
    · have hlti : (k : Int) < (p.consts.length : Int) := by omega
      have hlt' : k < q.consts.length := by have := HL1.out; omega
      have hlti' : (k : Int) < (q.consts.length : Int) := by omega
      obtain ⟨b, o, vm, vl, vt, rfl, _, hs, hrp⟩ := Cd.const_at (HP.out.consts.below HB2.out) k hlt
      obtain ⟨b', o', um, ul, ut, rfl, _, hs', hrp'⟩ := Cd.const_at (HQ.out.consts.below HB2.out) k hlt'
      have hr := HR.out
      rw [List.drop_eq_getElem_cons hlt, List.drop_eq_getElem_cons hlt', Cd.sameDs] at hr
      have hwf := Cd.wfs_at HW.out.wk k hlt
      have hwf' := Cd.wfs_at HW'.out.wk k hlt'
      obtain ⟨y, hyy⟩ : ∃ y, p.consts[k] = y := ⟨_, rfl⟩
      obtain ⟨z, hzz⟩ : ∃ z, q.consts[k] = z := ⟨_, rfl⟩
      rw [hyy] at hs hrp hr hwf
      rw [hzz] at hs' hrp' hr hwf'
      obtain ⟨a1, n1, c1, a2, n2, c2, a3, n3, c3, rfl, rfl, rfl⟩ := hrp.forms
      obtain ⟨d1, p1, q1, d2, p2, q2, d3, p3, q3, rfl, rfl, rfl⟩ := hrp'.forms
      obtain ⟨s0, s1, s2, s3, s4, s5⟩ := hs
      obtain ⟨t0, t1, t2, t3, t4, t5⟩ := hs'
      obtain ⟨E, hE⟩ : ∃ E, Dt.sameD y z = E := ⟨_, rfl⟩
      have cV : ∀ d os, Calls Try.prog 32 #[.agg #[.int .i64 y.k, .int .i64 y.n, .string y.s, .slice a1 n1 c1, .slice a2 n2 c2, .slice a3 n3 c3], .agg #[.int .i64 z.k, .int .i64 z.n, .string z.s, .slice d1 p1 q1, .slice d2 p2 q2, .slice d3 p3 q3]] (grow (redrawn wr d) os) fun e w'' => e = .returned (.bool E) ∧ ∃ p : Regrown, w'' = grow (redrawn wr p.d) p.os := fun d os => by
        have := rSame_any y z _ _ _ _ _ _ (grow (redrawn wr d) os) hwf hwf' (hrp.below (below_regrown wr d os)) (hrp'.below (below_regrown wr d os))
        rw [hE] at this
        exact Calls.regrown_of this
      rw [hE] at hr
      have HRR := Lib.hid hr
      clear hr hwf hwf' hrp hrp' hyy hzz hE
      go_upto_region 6 with fail
      have g0 := cell_regrown x1
      have g1 := cell_regrown y1
      have i0 := cell_regrown s0
      have i1 := cell_regrown s1
      have i2 := cell_regrown s2
      have i3 := cell_regrown s3
      have i4 := cell_regrown s4
      have i5 := cell_regrown s5
      have j0 := cell_regrown t0
      have j1 := cell_regrown t1
      have j2 := cell_regrown t2
      have j3 := cell_regrown t3
      have j4 := cell_regrown t4
      have j5 := cell_regrown t5
      refine wp_region_quiet_below (by kernel_rfl) (by kernel_rfl) ?_
      repeat (go_big_quiet_step (first | exact cV _ _))
      refine wpQuiet_nil ?_
      intro _ hw'
      obtain ⟨⟨dq, osq⟩, hw''⟩ := hw'
      subst hw''
      have hbq := below_regrown wr dq osq
      obtain ⟨w6, hw6⟩ : ∃ w6, grow (redrawn wr dq) osq = w6 := ⟨_, rfl⟩
      rw [hw6] at hbq ⊢
      have HB6 : Hid (Below w2.heap.size w2 w6) := HB2.out.trans (hbq.mono HB2.out.size)
      clear cV g0 g1 i0 i1 i2 i3 i4 i5 j0 j1 j2 j3 j4 j5 hw6 hbq x0 x1 x2 y0 y1 y2 s0 s1 s2 s3 s4 s5 t0 t1 t2 t3 t4 t5
      cases E with
      | false =>
        have HN : Hid (R = false) := by show _ = _; rw [HRR.out]; rfl
        go_wp2
        go_ret
        exact ⟨by rw [HN.out]; rfl, HB.out.trans (HB6.out.mono HB.out.size)⟩
      | true =>
        have HN : Hid (R = (Cd.sameDs (p.consts.drop (k + 1)) (q.consts.drop (k + 1)) && (decide (p.names = q.names) && Cd.eqCs p.codes q.codes))) := by show _ = _; rw [HRR.out, Bool.true_and]
        go_wp2
        go_roundw
        case rel => exact ⟨k + 1, by simp, by omega, HN, HB6⟩
        case measure => simp [intOf]; omega
    · have hge : (p.consts.length : Int) ≤ (k : Int) := by omega
      have HN0 : Hid (R = (decide (p.names.drop 0 = q.names.drop 0) && Cd.eqCs p.codes q.codes)) := by show _ = _; rw [HR.out, List.drop_eq_nil_of_le (by omega), List.drop_eq_nil_of_le (by have := HL1.out; omega), List.drop_zero, List.drop_zero]; rfl
      go_wp2
      clear x0 x1 x2 y0 y1 y2
      go_loopw [6] (fun v wr => ∃ k : Nat, v = .int .i64 k ∧ k ≤ p.names.length ∧ Hid (R = (decide (p.names.drop k = q.names.drop k) && Cd.eqCs p.codes q.codes)) ∧ Hid (Below w2.heap.size w2 wr)) (fun v _ => p.names.length - (intOf v).toNat)
      case atStart => exact ⟨0, rfl, by omega, HN0, HB2⟩
      case round =>
        clear HB2
        obtain ⟨k2, rfl, hk2, HR2, HB2⟩ := hrel
        obtain ⟨x0, x1, x2⟩ := H1.out _ HB2.out
        obtain ⟨y0, y1, y2⟩ := H2.out _ HB2.out
        rw [hZ] at y0 y1 y2
        by_cases hlt : k2 < p.names.length
        · have hlti : (k2 : Int) < (p.names.length : Int) := by omega
          have hlt' : k2 < q.names.length := by have := HL2.out; omega
          have hlti' : (k2 : Int) < (q.names.length : Int) := by omega
          obtain ⟨b, o, rfl, _, s0⟩ := Cd.name_at (HP.out.names.below HB2.out) k2 hlt
          obtain ⟨b', o', rfl, _, t0⟩ := Cd.name_at (HQ.out.names.below HB2.out) k2 hlt'
          have hr := HR2.out
          rw [List.drop_eq_getElem_cons hlt, List.drop_eq_getElem_cons hlt'] at hr
          obtain ⟨x, hx⟩ : ∃ x, p.names[k2] = x := ⟨_, rfl⟩
          obtain ⟨y, hy⟩ : ∃ y, q.names[k2] = y := ⟨_, rfl⟩
          rw [hx] at s0 hr
          rw [hy] at t0 hr
          clear hx hy
          by_cases hxy : x = y
          · subst hxy
            have hxe : (x != x) = false := by simp
            have hxt : (!x.toList == x.toList) = false := by simp
            have HN : Hid (R = (decide (p.names.drop (k2 + 1) = q.names.drop (k2 + 1)) && Cd.eqCs p.codes q.codes)) := by show _ = _; rw [hr]; simp
            clear hr
            go_wp2
            go_quiet (fail)
            go_wp2
            go_roundw
            case rel => exact ⟨k2 + 1, by simp, by omega, HN, HB2.out.trans ⟨rfl, rfl, rfl, Nat.le_refl _, fun _ _ => rfl⟩⟩
            case measure => simp [intOf]; omega
          · have hxe : (x != y) = true := bne_iff_ne.2 hxy
            have hxt : (x.toList == y.toList) = false := by
              rw [ByteArray.toList_eq, ByteArray.toList_eq, beq_eq_false_iff_ne]
              intro e
              apply hxy
              cases x; cases y
              cases Array.toList_inj.1 e
              rfl
            have HN : Hid (R = false) := by show _ = _; rw [hr]; simp [hxy]
            clear hr hxy
            go_wp2
            go_quiet (fail)
            go_wp2
            go_ret
            refine ⟨by rw [HN.out]; rfl, HB.out.trans (Below.mono ?_ HB.out.size)⟩
            exact HB2.out.trans ⟨rfl, rfl, rfl, Nat.le_refl _, fun _ _ => rfl⟩
        · have hge : (p.names.length : Int) ≤ (k2 : Int) := by omega
          have HN1 : Hid (R = Cd.eqCs (p.codes.drop 0) (q.codes.drop 0)) := by show _ = _; rw [HR2.out, List.drop_eq_nil_of_le (by omega), List.drop_eq_nil_of_le (by have := HL2.out; omega), List.drop_zero, List.drop_zero]; rfl
          go_wp2
          clear x0 x1 x2 y0 y1 y2
          go_loopw [7] (fun v wr => ∃ k : Nat, v = .int .i64 k ∧ k ≤ p.codes.length ∧ Hid (R = Cd.eqCs (p.codes.drop k) (q.codes.drop k)) ∧ Hid (Below w2.heap.size w2 wr)) (fun v _ => p.codes.length - (intOf v).toNat)
          case atStart => exact ⟨0, rfl, by omega, HN1, HB2⟩
          case round =>
            clear HB2
            obtain ⟨k3, rfl, hk3, HR3, HB2⟩ := hrel
            obtain ⟨x0, x1, x2⟩ := H1.out _ HB2.out
            by_cases hlt : k3 < p.codes.length
            · have hlti : (k3 : Int) < (p.codes.length : Int) := by omega
              have hlt' : k3 < q.codes.length := by have := HL0.out; omega
              have hlti' : (k3 : Int) < (q.codes.length : Int) := by omega
              have hltd : decide ((k3 : Int) < (p.codes.length : Int)) = true := decide_eq_true hlti
              obtain ⟨b, o, rfl, _, hbl, c0, c1, c2, c3, v, c4, hv⟩ := Cd.code_at (HP.out.codes.below HB2.out) k3 hlt
              obtain ⟨b', o', rfl, _, hbl', e0, e1, e2, e3, u, e4, hu⟩ := Cd.code_at (HQ.out.codes.below HB2.out) k3 hlt'
              have hr := HR3.out
              rw [List.drop_eq_getElem_cons hlt, List.drop_eq_getElem_cons hlt', Cd.eqCs] at hr
              have hwf := (HW.out.wc p.codes[k3] (List.getElem_mem hlt)).2.2.2.2.1
              have hwf' := (HW'.out.wc q.codes[k3] (List.getElem_mem hlt')).2.2.2.2.1
              obtain ⟨y, hyy⟩ : ∃ y, p.codes[k3] = y := ⟨_, rfl⟩
              obtain ⟨z, hzz⟩ : ∃ z, q.codes[k3] = z := ⟨_, rfl⟩
              rw [hyy] at c0 c1 c2 c3 hv hr hwf
              rw [hzz] at e0 e1 e2 e3 hu hr hwf'
              obtain ⟨a1, n1, rfl⟩ := hv.form
              obtain ⟨d1, p1, rfl⟩ := hu.form
              obtain ⟨wc, hwc⟩ : ∃ wc, wr.alloc (.cells #[.int .i64 y.params, .int .i64 y.rest, .int .i64 y.caps, .int .i64 y.max, .slice a1 y.ins.length n1] 39) = wc := ⟨_, rfl⟩
              obtain ⟨wd, hwd⟩ : ∃ wd, wc.alloc (.cells #[.int .i64 z.params, .int .i64 z.rest, .int .i64 z.caps, .int .i64 z.max, .slice d1 z.ins.length p1] 39) = wd := ⟨_, rfl⟩
              obtain ⟨hb1, hs1, h1⟩ := Cd.boxC hwc
              obtain ⟨hb2, hs2, h2⟩ := Cd.boxC hwd
              obtain ⟨s0, s1, s2, s3, s4⟩ := h1 wd hb2
              obtain ⟨t0, t1, t2, t3, t4⟩ := h2 wd (Below.refl _ _)
              have hbd : Below wr.heap.size wr wd := hb1.trans (hb2.mono hb1.size)
              obtain ⟨y0, y1, y2⟩ := H2.out wc (HB2.out.trans (hb1.mono HB2.out.size))
              rw [hZ] at y0 y1 y2
              have z0 := (hb1.cell (p := ⟨b', o' + k3 * 5, none⟩) hbl').trans e0
              have z1 := (hb1.cell (p := ⟨b', o' + k3 * 5 + 1, none⟩) hbl').trans e1
              have z2 := (hb1.cell (p := ⟨b', o' + k3 * 5 + 2, none⟩) hbl').trans e2
              have z3 := (hb1.cell (p := ⟨b', o' + k3 * 5 + 3, none⟩) hbl').trans e3
              have z4 := (hb1.cell (p := ⟨b', o' + k3 * 5 + 4, none⟩) hbl').trans e4
              have HBD : Hid (Below w2.heap.size w2 wd) := HB2.out.trans (hbd.mono HB2.out.size)
              have HV : Hid (Cd.InsRow _ wd _ y.ins) := hv.below hbd
              have HU : Hid (Cd.InsRow _ wd _ z.ins) := hu.below hbd
              obtain ⟨YB, hYB⟩ : ∃ YB, wr.heap.size = YB := ⟨_, rfl⟩
              obtain ⟨ZB, hZB⟩ : ∃ ZB, wc.heap.size = ZB := ⟨_, rfl⟩
              rw [hYB] at s0 s1 s2 s3 s4
              rw [hZB] at t0 t1 t2 t3 t4
              clear hv hu hb1 hb2 hs1 hs2 h1 h2 hbd hyy hzz e0 e1 e2 e3 e4 hbl hbl'
              unfold Cd.eqC at hr
              by_cases f0 : y.params = z.params
              case neg =>
                have b0 : (y.params != z.params) = true := by simpa using f0
                have HN : Hid (R = false) := by show _ = _; rw [hr, decide_eq_false f0]; rfl
                have D0 : decide (y.params = z.params) = false := decide_eq_false f0
                clear f0 hr
                go_wp2
                go_ret
                exact ⟨by rw [HN.out]; rfl, HB.out.trans (HBD.out.mono HB.out.size)⟩
              have b0 : (y.params != z.params) = false := by simpa using f0
              have D0 : decide (y.params = z.params) = true := decide_eq_true f0
              rw [D0, Bool.true_and] at hr
              clear f0
              by_cases f1 : y.rest = z.rest
              case neg =>
                have b1 : (y.rest != z.rest) = true := by simpa using f1
                have HN : Hid (R = false) := by show _ = _; rw [hr, decide_eq_false f1]; rfl
                have D1 : decide (y.rest = z.rest) = false := decide_eq_false f1
                clear f1 hr
                go_wp2
                go_ret
                exact ⟨by rw [HN.out]; rfl, HB.out.trans (HBD.out.mono HB.out.size)⟩
              have b1 : (y.rest != z.rest) = false := by simpa using f1
              have D1 : decide (y.rest = z.rest) = true := decide_eq_true f1
              rw [D1, Bool.true_and] at hr
              clear f1
              by_cases f2 : y.caps = z.caps
              case neg =>
                have b2 : (y.caps != z.caps) = true := by simpa using f2
                have HN : Hid (R = false) := by show _ = _; rw [hr, decide_eq_false f2]; rfl
                have D2 : decide (y.caps = z.caps) = false := decide_eq_false f2
                clear f2 hr
                go_wp2
                go_ret
                exact ⟨by rw [HN.out]; rfl, HB.out.trans (HBD.out.mono HB.out.size)⟩
              have b2 : (y.caps != z.caps) = false := by simpa using f2
              have D2 : decide (y.caps = z.caps) = true := decide_eq_true f2
              rw [D2, Bool.true_and] at hr
              clear f2
              by_cases f3 : y.max = z.max
              case neg =>
                have b3 : (y.max != z.max) = true := by simpa using f3
                have HN : Hid (R = false) := by show _ = _; rw [hr, decide_eq_false f3]; rfl
                have D3 : decide (y.max = z.max) = false := decide_eq_false f3
                clear f3 hr
                go_wp2
                go_ret
                exact ⟨by rw [HN.out]; rfl, HB.out.trans (HBD.out.mono HB.out.size)⟩
              have b3 : (y.max != z.max) = false := by simpa using f3
              have D3 : decide (y.max = z.max) = true := decide_eq_true f3
              rw [D3, Bool.true_and] at hr
              clear f3
              by_cases f4 : y.ins.length = z.ins.length
              case neg =>
                have b4 : ((y.ins.length : Int) != (z.ins.length : Int)) = true := by simpa using fun h => f4 (by omega)
                have HN : Hid (R = false) := by show _ = _; rw [hr, decide_eq_false (fun e => f4 (by rw [e]))]; rfl
                clear f4 hr
                go_wp2
                go_ret
                exact ⟨by rw [HN.out]; rfl, HB.out.trans (HBD.out.mono HB.out.size)⟩
              have b4 : ((y.ins.length : Int) != (z.ins.length : Int)) = false := by simp [f4]
              have HF4 := Lib.hid f4
              have HN2 : Hid (R = (decide (y.ins.drop 0 = z.ins.drop 0) && Cd.eqCs (p.codes.drop (k3 + 1)) (q.codes.drop (k3 + 1)))) := by show _ = _; rw [List.drop_zero, List.drop_zero]; exact hr
              clear hr f4
              go_wp2
              clear x0 x1 x2 y0 y1 y2 z0 z1 z2 z3 z4 c0 c1 c2 c3 c4 s0 s1 s2 s3 t0 t1 t2 t3 hwc hwd
              go_loopw [10] (fun v wr => ∃ k : Nat, v = .int .i64 k ∧ k ≤ y.ins.length ∧ Hid (R = (decide (y.ins.drop k = z.ins.drop k) && Cd.eqCs (p.codes.drop (k3 + 1)) (q.codes.drop (k3 + 1)))) ∧ ∃ q, wr = wd.drewN q) (fun v _ => y.ins.length - (intOf v).toNat)
              case atStart => exact ⟨0, rfl, by omega, HN2, 0, rfl⟩
              case round =>
                obtain ⟨k4, rfl, hk4, HR4, q4, rfl⟩ := hrel
                by_cases hlt4 : k4 < y.ins.length
                · have hlti4 : (k4 : Int) < (y.ins.length : Int) := by omega
                  have hlt4' : k4 < z.ins.length := by have := HF4.out; omega
                  have hlti4' : (k4 : Int) < (z.ins.length : Int) := by omega
                  obtain ⟨_, _, hE1, _, hV⟩ := HV.out
                  obtain ⟨_, _, hE2, _, hU⟩ := HU.out
                  cases hE1
                  cases hE2
                  obtain ⟨g, og, rfl, _, _, hcell⟩ := hV (by intro h0; rw [h0] at hlt4; simp at hlt4)
                  obtain ⟨g', og', rfl, _, _, hcell'⟩ := hU (by intro h0; rw [h0] at hlt4'; simp at hlt4')
                  obtain ⟨x0, x1, x2⟩ := hcell k4 hlt4
                  obtain ⟨y0, y1, y2⟩ := hcell' k4 hlt4'
                  have hr := HR4.out
                  rw [List.drop_eq_getElem_cons hlt4, List.drop_eq_getElem_cons hlt4'] at hr
                  obtain ⟨i, hi⟩ : ∃ i, y.ins[k4] = i := ⟨_, rfl⟩
                  obtain ⟨j, hj⟩ : ∃ j, z.ins[k4] = j := ⟨_, rfl⟩
                  rw [hi] at x0 x1 x2 hr
                  rw [hj] at y0 y1 y2 hr
                  clear hi hj hcell hcell' hV hU
                  by_cases hxy : i = j
                  · subst hxy
                    have HN : Hid (R = (decide (y.ins.drop (k4 + 1) = z.ins.drop (k4 + 1)) && Cd.eqCs (p.codes.drop (k3 + 1)) (q.codes.drop (k3 + 1)))) := by show _ = _; rw [hr]; simp
                    clear hr
                    go_wp2
                    go_quiet (fail)
                    go_wp2
                    go_roundw
                    case rel => exact ⟨k4 + 1, by simp, by omega, HN, _, rfl⟩
                    case measure => simp [intOf]; omega
                  · have HN : Hid (R = false) := by show _ = _; rw [hr]; simp [hxy]
                    obtain ⟨xo, xa, xb⟩ := i
                    obtain ⟨yo, ya, yb⟩ := j
                    simp only at x0 x1 x2 y0 y1 y2
                    clear hr
                    by_cases e1 : xo = yo
                    · subst e1
                      by_cases e2 : xa = ya
                      · subst e2
                        have e3 : (xb == yb) = false := by rw [beq_eq_false_iff_ne]; intro e; apply hxy; rw [e]
                        have e3' : decide (xb = yb) = false := by simpa using e3
                        clear hxy
                        go_wp2
                        go_quiet (fail)
                        go_wp2
                        go_ret
                        refine ⟨by rw [HN.out]; rfl, HB.out.trans (Below.mono ?_ HB.out.size)⟩
                        exact HBD.out.trans ⟨rfl, rfl, rfl, Nat.le_refl _, fun _ _ => rfl⟩
                      · have e3 : (xa == ya) = false := by simpa using e2
                        have e3' : decide (xa = ya) = false := by simpa using e2
                        clear hxy
                        go_wp2
                        go_quiet (fail)
                        go_wp2
                        go_ret
                        refine ⟨by rw [HN.out]; rfl, HB.out.trans (Below.mono ?_ HB.out.size)⟩
                        exact HBD.out.trans ⟨rfl, rfl, rfl, Nat.le_refl _, fun _ _ => rfl⟩
                    · have e3 : (xo == yo) = false := by simpa using e1
                      have e3' : decide (xo = yo) = false := by simpa using e1
                      clear hxy
                      go_wp2
                      go_quiet (fail)
                      go_wp2
                      go_ret
                      refine ⟨by rw [HN.out]; rfl, HB.out.trans (Below.mono ?_ HB.out.size)⟩
                      exact HBD.out.trans ⟨rfl, rfl, rfl, Nat.le_refl _, fun _ _ => rfl⟩
                · have hge4 : (y.ins.length : Int) ≤ (k4 : Int) := by omega
                  have HN : Hid (R = Cd.eqCs (p.codes.drop (k3 + 1)) (q.codes.drop (k3 + 1))) := by show _ = _; rw [HR4.out, List.drop_eq_nil_of_le (by omega), List.drop_eq_nil_of_le (by have := HF4.out; omega)]; rfl
                  go_wp2
                  go_roundw
                  case rel => exact ⟨k3 + 1, by simp, by omega, HN, HBD.out.trans ⟨rfl, rfl, rfl, Nat.le_refl _, fun _ _ => rfl⟩⟩
                  case measure => simp [intOf]; omega
            · have hge : (p.codes.length : Int) ≤ (k3 : Int) := by omega
              have HN : Hid (R = true) := by show _ = _; rw [HR3.out, List.drop_eq_nil_of_le (by omega), List.drop_eq_nil_of_le (by have := HL0.out; omega)]; rfl
              go_wp2
              go_ret
              exact ⟨by rw [HN.out]; rfl, HB.out.trans (HB2.out.mono HB.out.size)⟩
end Go.Proofs.Ytlckjphnbfahgaa
namespace Go.Proofs.Ytlckjphnbfahgaa
namespace Cd
def setC (p : Prog) (i : Nat) (c : Code) : Prog := { p with codes := p.codes.set i c }
theorem counts_max {p : Prog} {i : Nat} (hi : i < p.codes.length) (h : checkP p = 0) (m : Int) (hm : m ≠ p.codes[i].max) : checkP (setC p i { p.codes[i] with max := m }) = 90 := by
  obtain ⟨-, -, hg⟩ := check_codes h
  obtain ⟨fin, hf⟩ := (good_good (hg p.codes[i] (List.getElem_mem hi))).flow
  have hi2 : i < (setC p i { p.codes[i] with max := m }).codes.length := by show i < (p.codes.set i _).length; rw [List.length_set]; exact hi
  refine check_code i hi2 ?_
  have e : (setC p i { p.codes[i] with max := m }).codes[i] = { p.codes[i] with max := m } := List.getElem_set_self _
  rw [e]
  cases hgd : good (setC p i { p.codes[i] with max := m }) { p.codes[i] with max := m } with
  | false => rfl
  | true =>
    obtain ⟨fin2, hf2⟩ := (good_good hgd).flow
    have hf3 : flowW p.codes[i].ins 0 (start p.codes[i].ins.length) 0 = some (fin2, m) := hf2
    rw [hf] at hf3
    exact absurd (Prod.mk.inj (Option.some.inj hf3)).2.symm hm
theorem counts_more {p : Prog} {i : Nat} (hi : i < p.codes.length) (h : checkP p = 0) (x : Ins) : checkP (setC p i { p.codes[i] with ins := p.codes[i].ins ++ [x] }) = 90 := by
  rcases check_is (setC p i { p.codes[i] with ins := p.codes[i].ins ++ [x] }) with h2 | h2
  · obtain ⟨-, -, hg⟩ := check_codes h
    obtain ⟨-, -, hg2⟩ := check_codes h2
    have hi2 : i < (setC p i { p.codes[i] with ins := p.codes[i].ins ++ [x] }).codes.length := by show i < (p.codes.set i _).length; rw [List.length_set]; exact hi
    have e : (setC p i { p.codes[i] with ins := p.codes[i].ins ++ [x] }).codes[i] = { p.codes[i] with ins := p.codes[i].ins ++ [x] } := List.getElem_set_self _
    have hgd := hg2 _ (List.getElem_mem hi2)
    rw [e] at hgd
    obtain ⟨hfw, fin, hfl⟩ := (good_good hgd).flow' hg2
    have hx : Few x := hfw x (List.mem_append_right _ (List.mem_singleton_self x))
    have hm := (good_good (hg p.codes[i] (List.getElem_mem hi))).more hg hx.1.1
    rw [show ({ p.codes[i] with ins := p.codes[i].ins ++ [x] } : Code).ins = p.codes[i].ins ++ [x] from rfl] at hfl
    rw [hm] at hfl
    cases hfl
  · exact h2
theorem setC_same {p : Prog} {i : Nat} (hi : i < p.codes.length) : setC p i { p.codes[i] with max := p.codes[i].max } = p := by
  unfold setC
  rw [show ({ p.codes[i] with max := p.codes[i].max } : Code) = p.codes[i] from rfl, List.set_getElem_self]
theorem clone_same {p : Prog} (h : checkP p = 0) : p.consts.map Dt.clone = p.consts := by
  obtain ⟨-, hc, -, -⟩ := check_parts h
  conv => rhs; rw [← List.map_id p.consts]
  apply List.map_congr_left
  intro d hd
  obtain ⟨i, hi, rfl⟩ := List.getElem_of_mem hd
  have := hc i hi
  rw [constOk_at hi] at this
  have h2 : plainD p.consts[i] = true := by
    cases e : plainD p.consts[i] with
    | true => rfl
    | false => rw [e] at this; cases this
  unfold plainD at h2
  rw [Bool.and_eq_true, decide_eq_true_eq] at h2
  unfold Dt.clone
  rw [if_pos h2.1]
  rfl
theorem check_small {p : Prog} (h : checkP p = 0) : p.codes.length ≤ 1024 ∧ p.consts.length ≤ 1024 ∧ p.names.length ≤ 1024 ∧ ∀ c ∈ p.codes, c.ins.length ≤ 4096 := by
  obtain ⟨hf, -, -, -⟩ := check_parts h
  obtain ⟨-, -, hg⟩ := check_codes h
  refine ⟨?_, ?_, ?_, fun c hc => (good_good (hg c hc)).len⟩
  · exact Nat.le_of_not_lt fun h => hf (.inr (.inl h))
  · exact Nat.le_of_not_lt fun h => hf (.inr (.inr (.inl h)))
  · exact Nat.le_of_not_lt fun h => hf (.inr (.inr (.inr (.inl h))))
end Cd
end Go.Proofs.Ytlckjphnbfahgaa
namespace Go.Proofs.Ytlckjphnbfahgaa
open Go.RowKit
namespace Cd
theorem Own.rep {w : World} {base m : Nat} {vc vk vn : Value} {ks : List (Code × Value)} {l : List Dt.D} {ns : List ByteArray} (h : Own w base m vc vk vn ks l ns) : PRep (fun _ => True) w ⟨ks.map Prod.fst, l, ns⟩ vc vk vn :=
  ⟨h.cs.codes (fun _ _ => trivial), row_mono h.ds (fun _ _ _ => trivial), nrow_mono h.nm (fun _ _ _ => trivial)⟩
theorem Own.below {w w' : World} {base m : Nat} {vc vk vn : Value} {ks : List (Code × Value)} {l : List Dt.D} {ns : List ByteArray} (h : Own w base m vc vk vn ks l ns) (hb : Below w.heap.size w w') : Own w' base m vc vk vn ks l ns :=
  ⟨h.le, h.cs.below hb, h.ds.below hb, h.nm.below hb, own_keep (S := fun _ => False) h.no.1 ((Keep.refl _ w).below hb) (fun _ _ h => h), h.no.2⟩
theorem Own.keep {S : Nat → Prop} {w w' : World} {base m : Nat} {vc vk vn : Value} {ks : List (Code × Value)} {l : List Dt.D} {ns : List ByteArray} (h : Own w base m vc vk vn ks l ns) (hk : Keep S w w') (hS : ∀ j, base ≤ j → j < w.heap.size → ¬ S j) : Own w' base m vc vk vn ks l ns := by
  have h1 := h.le
  refine ⟨h.le, ⟨own_keep h.cs.row hk (fun k e => hS k (by have := (h.cs.row.lt k e).1; omega) (h.cs.row.lt k e).2), fun j hj => own_keep (h.cs.ins j hj) hk (fun k e => hS k (by have := ((h.cs.ins j hj).lt k e).1; omega) ((h.cs.ins j hj).lt k e).2), h.cs.ne, h.cs.dj⟩, h.ds.keep hk (fun j hj hl => hS j hj.1 hl), h.nm.keep hk (fun j hj hl => hS j hj.1 hl), own_keep h.no.1 hk (fun k e => hS k (h.no.1.lt k e).1 (h.no.1.lt k e).2), h.no.2⟩
theorem wf_set {p : Prog} {i : Nat} {c : Code} (h : PWf p) (hc : CWf c) : PWf (setC p i c) := by
  refine ⟨by show (p.codes.set i c).length ≤ _; rw [List.length_set]; exact h.lc, h.lk, h.ln, h.wk, h.wn, fun d hd => ?_⟩
  rcases List.mem_or_eq_of_mem_set hd with hd | rfl
  · exact h.wc d hd
  · exact hc
theorem sl_form {F : Nat → Prop} {w : World} {v : Value} {l : List Dt.D} (h : Dt.Row F w v l) : ∃ a c, v = .slice a l.length c := by
  obtain ⟨a, c, e, -⟩ := h
  exact ⟨a, c, e⟩
theorem nm_form {F : Nat → Prop} {w : World} {v : Value} {l : List ByteArray} (h : NameRow F w v l) : ∃ a c, v = .slice a l.length c := by
  obtain ⟨a, c, e, -⟩ := h
  exact ⟨a, c, e⟩
end Cd
end Go.Proofs.Ytlckjphnbfahgaa
namespace Go.Proofs.Ytlckjphnbfahgaa
open Go.RowKit Go.Sort
attribute [local go_sem] Oper.semAt_some
namespace Cd
theorem sameDs_self : ∀ l : List Dt.D, (∀ d ∈ l, Dt.check d = 0) → sameDs l l = true
  | [], _ => rfl
  | d :: l, h => by
    rw [sameDs, sameDs_self l (fun x hx => h x (List.mem_cons_of_mem _ hx)), Bool.and_true]
    unfold Dt.sameD
    rw [h d List.mem_cons_self, (Dt.eqD_iff d d).2 rfl]
    rfl
theorem eqCs_self : ∀ l : List Code, eqCs l l = true
  | [] => rfl
  | c :: l => by
    rw [eqCs, eqCs_self l, Bool.and_true]
    unfold eqC
    simp
theorem samePr_self {p : Prog} (h : checkP p = 0) : samePr p p = true := by
  unfold samePr
  rw [eqCs_self, decide_eq_true rfl, sameDs_self]
  · rfl
  · intro d hd
    obtain ⟨-, hc, -, -⟩ := check_parts h
    obtain ⟨i, hi, rfl⟩ := List.getElem_of_mem hd
    have := hc i hi
    rw [constOk_at hi, Bool.and_eq_true] at this
    have h2 := this.1
    unfold plainD at h2
    rw [Bool.and_eq_true, decide_eq_true_eq] at h2
    exact h2.1
theorem CRow.vi {w : World} {base g cap : Nat} {ks : List (Code × Value)} {n : Nat} (h : CRow w base (.slice (some ⟨g, 0, none⟩) n cap) ks) {j : Nat} (hj : j < ks.length) : w.cell? ⟨g, j * 5 + 4, none⟩ = some ks[j].2 := by
  have hu : (flatK ks)[j * 5 + 4]? = some ks[j].2 := by rw [show flatK ks = ks.flatMap codeV from rfl, flat_get codeV 5 (fun _ => rfl) ks j 4 hj (by decide)]; rfl
  have := h.row.cells (g := g) rfl (j * 5 + 4) _ hu
  rw [add_off, Nat.zero_add] at this
  exact this
theorem CRow.insForm {w : World} {base : Nat} {v : Value} {ks : List (Code × Value)} (h : CRow w base v ks) {j : Nat} (hj : j < ks.length) (hn : 0 < ks[j].1.ins.length) : ∃ gk cap u, ks[j].2 = .slice (some ⟨gk, 0, none⟩) ks[j].1.ins.length cap ∧ base ≤ gk ∧ gk < w.heap.size ∧ w.frozen? ⟨gk, 0, none⟩ = false ∧ w.cell? ⟨gk, 0, none⟩ = some u ∧ ks[j].2.ownBlock = some gk := by
  have hr := h.ins j hj
  rcases hr.2 with ⟨-, h0⟩ | ⟨gk, cap, cur, e1, e2, e3, _⟩
  · omega
  · have hu : (flatI ks[j].1.ins)[0]? = some (.int .i64 (ks[j].1.ins[0]'hn).o) := by
      exact flat_get insV 3 (fun _ => rfl) ks[j].1.ins 0 0 hn (by decide)
    have hb : ks[j].2.ownBlock = some gk := by rw [e1]; rfl
    have hc := hr.cells (g := gk) hb 0 _ hu
    rw [add_off] at hc
    exact ⟨gk, cap, _, e1, e2, (Array.getElem?_eq_some_iff.1 e3).1, Lib.frozen_of_heap e3 0, hc, hb⟩
/-- the blocks of the first k codes' instructions -/
def SB (ks : List (Code × Value)) (k b : Nat) : Prop := ∃ j, ∃ h : j < ks.length, j < k ∧ ks[j].2.ownBlock = some b
/-- texts in a row of their own, whatever they are -/
def NR (w : World) (base : Nat) (v : Value) (n : Nat) : Prop := ∃ l : List Value, l.length = n ∧ w.ownsRow base 9 1 v n l
theorem NR.at {w : World} {base n cap : Nat} {a : Option Addr} (h : NR w base (.slice a n cap) n) {k : Nat} (hk : k < n) : ∃ g u, a = some ⟨g, 0, none⟩ ∧ w.cell? ⟨g, k, none⟩ = some u ∧ w.frozen? ⟨g, k, none⟩ = false ∧ ∀ s, NR (w.setCell ⟨g, k, none⟩ s) base (.slice a n cap) n := by
  obtain ⟨l, hl, hr⟩ := h
  have hr0 := hr
  rcases hr.2 with ⟨-, h0⟩ | ⟨g, cap', cur, e1, e2, e3, _⟩
  · omega
  · cases e1
    have hc := hr.cells (g := g) rfl k (l[k]'(by omega)) (List.getElem?_eq_getElem (by omega))
    rw [add_off, Nat.zero_add] at hc
    refine ⟨g, _, rfl, hc, Lib.frozen_of_heap e3 k, fun s => ⟨l.take k ++ s :: l.drop (k + 1), ?_, ?_⟩⟩
    · simp; omega
    · have e4 : l = l.take k ++ l[k]'(by omega) :: l.drop (k + 1) := by
        rw [← List.drop_eq_getElem_cons (by omega), List.take_append_drop]
      rw [e4] at hr0
      have := Pt.own_set (v := s) hr0
      rw [List.length_take, Nat.min_eq_left (by omega)] at this
      exact this
end Cd
set_option maxRecDepth 100000 in
set_option maxHeartbeats 16000000 in
theorem CodeSame_walk {F G : Nat → Prop} (p q : Cd.Prog) (vc vk vn uc uk un : Value) (w : World) (hp : Cd.PRep F w p vc vk vn) (hq : Cd.PRep G w q uc uk un) (hw : Cd.PWf p) (hw' : Cd.PWf q) :
    Calls Try.prog 6 #[.agg #[vc, vk, vn], .agg #[uc, uk, un]] w fun e w' => e = .returned (.bool true) ∧ Below w.heap.size w w' := by
  obtain ⟨a1, c1, a2, c2, a3, c3, rfl, rfl, rfl⟩ := hp.forms
  obtain ⟨b1, d1, b2, d2, b3, d3, rfl, rfl, rfl⟩ := hq.forms
  obtain ⟨w0, hw0⟩ : ∃ w0, w.alloc (.cells #[.slice a1 p.codes.length c1, .slice a2 p.consts.length c2, .slice a3 p.names.length c3] 26) = w0 := ⟨_, rfl⟩
  obtain ⟨w1, hw1⟩ : ∃ w1, w0.alloc (.cells #[.slice b1 q.codes.length d1, .slice b2 q.consts.length d2, .slice b3 q.names.length d3] 26) = w1 := ⟨_, rfl⟩
  obtain ⟨hb0, hs0, hbp⟩ := Cd.boxP hw0
  obtain ⟨hb1, hs1, hbq⟩ := Cd.boxP hw1
  obtain ⟨Z, hZ⟩ : ∃ Z, w0.heap.size = Z := ⟨_, rfl⟩
  have haw := awake_any w1
  have HP := Lib.hid hp
  have HQ := Lib.hid hq
  have HW := Lib.hid hw
  have HW' := Lib.hid hw'
  have HB1 : Hid (Below w.heap.size w w1) := hb0.trans (hb1.mono hb0.size)
  have HBP : Hid (∀ W, Below w1.heap.size w1 W → W.cell? ⟨w.heap.size, 0, none⟩ = some (.slice a1 p.codes.length c1) ∧ W.cell? ⟨w.heap.size, 1, none⟩ = some (.slice a2 p.consts.length c2) ∧ W.cell? ⟨w.heap.size, 2, none⟩ = some (.slice a3 p.names.length c3)) := fun W hW => hbp W (hb1.trans (hW.mono hb1.size))
  have HBQ : Hid (∀ W, Below w1.heap.size w1 W → W.cell? ⟨Z, 0, none⟩ = some (.slice b1 q.codes.length d1) ∧ W.cell? ⟨Z, 1, none⟩ = some (.slice b2 q.consts.length d2) ∧ W.cell? ⟨Z, 2, none⟩ = some (.slice b3 q.names.length d3)) := fun W hW => hZ ▸ hbq W hW
  have HS1 : Hid (w1.heap.size = w.heap.size + 2 ∧ w0.heap.size = Z) := ⟨by omega, hZ⟩
  clear hp hq hw hw' hb0 hb1 hbp hbq hs0 hs1
  go_enter Try.func6, Try.ntmps6
  go_wp2_with (first | (go_at_call 7; refine haw.mono ?_; clear haw hw0 hw1; rintro e w2 ⟨rfl, hb2⟩; obtain ⟨p0, p1, p2⟩ := HBP.out w2 hb2; have HB2 : Hid (Below w.heap.size w w2) := HB1.out.trans (hb2.mono HB1.out.size); have HB12 := Lib.hid hb2; have hfew := fewS_any p _ _ _ w2 (HP.out.below HB2.out) HW.out; clear hb2) | (go_at_call 8; refine hfew.mono ?_; clear hfew p0 p1 p2; rintro e w3 hf; obtain ⟨⟨fb, rfl, hfb⟩, hb3⟩ := hf; refine Hid.out ?_))
  refine Lib.hid ?_
  have HB13 : Hid (Below w1.heap.size w1 w3) := HB12.out.trans (hb3.mono HB12.out.size)
  have HB3 : Hid (Below w.heap.size w w3) := HB2.out.trans (hb3.mono HB2.out.size)
  clear hb3 HB12 HB2
  cases fb with
  | false =>
    have haw := awake_any w3
    clear hfb
    go_wp2_with (go_at_call 7; refine haw.mono ?_; clear haw; rintro e w4 ⟨rfl, hb4⟩)
    go_ret
    exact ⟨rfl, HB3.out.trans (hb4.mono HB3.out.size)⟩
  | true =>
    have hsm := hfb rfl
    have HSM : Hid (Cd.Small p) := ⟨by have := hsm.1; omega, by have := hsm.2.1; omega, by have := hsm.2.2.1; omega, fun c hc => by have := hsm.2.2.2 c hc; omega⟩
    have hkl0 := hsm.1
    have hnl0 := hsm.2.2.1
    obtain ⟨q0, q1, q2⟩ := HBQ.out w3 HB13.out
    have hfew := few_any q _ _ _ w3 (HQ.out.below HB3.out) HW'.out
    clear hfb hsm
    go_wp2_with (go_at_call 8; refine hfew.mono ?_; clear hfew q0 q1 q2; rintro e w4 ⟨⟨fb, rfl⟩, hb4⟩; refine Hid.out ?_)
    refine Lib.hid ?_
    have HB14 : Hid (Below w1.heap.size w1 w4) := HB13.out.trans (hb4.mono HB13.out.size)
    have HB4 : Hid (Below w.heap.size w w4) := HB3.out.trans (hb4.mono HB3.out.size)
    clear hb4 HB13 HB3
    cases fb with
    | false =>
      have haw := awake_any w4
      go_wp2_with (go_at_call 7; refine haw.mono ?_; clear haw; rintro e w5 ⟨rfl, hb5⟩)
      go_ret
      exact ⟨rfl, HB4.out.trans (hb5.mono HB4.out.size)⟩
    | true =>
      obtain ⟨p0, p1, p2⟩ := HBP.out w4 HB14.out
      have hcn := clone_any p _ _ _ w4 (HP.out.below HB4.out) HW.out HSM.out
      go_wp2_with (go_at_call 15; refine hcn.mono ?_; clear hcn p0 p1 p2; rintro e w5 ⟨m, vc', vk', vn', ks, rfl, hown, hfst, hb5⟩; refine Hid.out ?_)
      refine Lib.hid ?_
      have hkl : ks.length = p.codes.length := by rw [← hfst, List.length_map]
      obtain ⟨ag, cg, rfl⟩ := Dt.row_form hown.cs.row
      obtain ⟨bk, dk, rfl⟩ := Cd.sl_form hown.ds
      obtain ⟨bn, dn, rfl⟩ := Cd.nm_form hown.nm
      have hdl : (p.consts.map Dt.clone).length = p.consts.length := List.length_map _
      rw [hdl] at hown ⊢
      rw [hkl] at hown ⊢
      obtain ⟨w6, hw6⟩ : ∃ w6, w5.alloc (.cells #[.slice ag p.codes.length cg, .slice bk p.consts.length dk, .slice bn p.names.length dn] 26) = w6 := ⟨_, rfl⟩
      obtain ⟨hb6, hs6, hbq⟩ := Cd.boxP hw6
      have hQ6 := Cd.box_heap hw6
      have HB5 : Hid (Below w.heap.size w w5) := HB4.out.trans (hb5.mono HB4.out.size)
      have HB6 : Hid (Below w.heap.size w w6) := HB5.out.trans (hb6.mono HB5.out.size)
      have HB16 : Hid (Below w1.heap.size w1 w6) := HB14.out.trans ((hb5.trans (hb6.mono hb5.size)).mono HB14.out.size)
      have hown6 := hown.below hb6
      obtain ⟨Q, hQ⟩ : ∃ Q, w5.heap.size = Q := ⟨_, rfl⟩
      rw [hQ] at hQ6 hs6 hbq
      have HC6 := Lib.hid hbq
      have HQ6 := Lib.hid hQ6
      have HOWN := Lib.hid hown6
      have HFST := Lib.hid hfst
      have HKL := Lib.hid hkl
      have HS6 : Hid (w6.heap.size = Q + 1) := hs6
      have HBLT : Hid (w.heap.size + 2 ≤ m ∧ (∀ k b, Cd.SB ks k b → m ≤ b ∧ b < Q) ∧ (∀ b, (Value.slice bn p.names.length dn).ownBlock = some b → w.heap.size + 2 ≤ b ∧ b < m ∧ b < Q)) := by
        have h1 := HS1.out.1
        have h2 := HB14.out.size
        have h3 := hown.le
        refine ⟨by omega, fun k b hb => ?_, fun b hb => ?_⟩
        · obtain ⟨j, hj, -, e⟩ := hb
          have := (hown.cs.ins j hj).lt b e
          exact ⟨this.1, by omega⟩
        · have := hown.no.1.lt b hb
          have := hown.no.2 b hb
          exact ⟨by omega, by omega, by omega⟩
      clear hb5 hb6 hown hown6 hfst hbq hQ6 hs6 hdl hkl
      obtain ⟨p0, p1, p2⟩ := HBP.out w6 HB16.out
      obtain ⟨q0, q1, q2⟩ := HBQ.out w6 HB16.out
      have i0 := cell_regrown p0
      have i1 := cell_regrown p1
      have i2 := cell_regrown p2
      have j0 := cell_regrown q0
      have j1 := cell_regrown q1
      have j2 := cell_regrown q2
      obtain ⟨E, hE⟩ : ∃ E, Cd.samePr p q = E := ⟨_, rfl⟩
      have cV1 : ∀ d os, Calls Try.prog 16 #[.agg #[.slice a1 p.codes.length c1, .slice a2 p.consts.length c2, .slice a3 p.names.length c3], .agg #[.slice b1 q.codes.length d1, .slice b2 q.consts.length d2, .slice b3 q.names.length d3]] (grow (redrawn w6 d) os) fun e w'' => e = .returned (.bool E) ∧ ∃ p : Regrown, w'' = grow (redrawn w6 p.d) p.os := fun d os => by
        have := cSame_any p q _ _ _ _ _ _ (grow (redrawn w6 d) os) ((HP.out.below HB6.out).below (below_regrown w6 d os)) ((HQ.out.below HB6.out).below (below_regrown w6 d os)) HW.out HW'.out
        rw [hE] at this
        exact Calls.regrown_of this
      have cV2 : ∀ d os, Calls Try.prog 17 #[.agg #[.slice a1 p.codes.length c1, .slice a2 p.consts.length c2, .slice a3 p.names.length c3], .agg #[.slice b1 q.codes.length d1, .slice b2 q.consts.length d2, .slice b3 q.names.length d3]] (grow (redrawn w6 d) os) fun e w'' => e = .returned (.bool E) ∧ ∃ p : Regrown, w'' = grow (redrawn w6 p.d) p.os := fun d os => by
        have := rSameP_any p q _ _ _ _ _ _ (grow (redrawn w6 d) os) ((HP.out.below HB6.out).below (below_regrown w6 d os)) ((HQ.out.below HB6.out).below (below_regrown w6 d os)) HW.out HW'.out
        rw [hE] at this
        exact Calls.regrown_of this
      have hEE : (E != E) = false := bne_self_eq_false E
      clear hE
      go_upto_region 4 with fail
      clear hw6 p0 p1 p2 q0 q1 q2
      refine wp_region_quiet_below (by kernel_rfl) (by kernel_rfl) ?_
      repeat (go_big_quiet_step (first | exact cV1 _ _ | exact cV2 _ _))
      refine wpQuiet_nil ?_
      intro _ hw'
      obtain ⟨⟨dq, osq⟩, hw''⟩ := hw'
      subst hw''
      have hbq := below_regrown w6 dq osq
      obtain ⟨w7, hw7⟩ : ∃ w7, grow (redrawn w6 dq) osq = w7 := ⟨_, rfl⟩
      rw [hw7] at hbq ⊢
      have HB67 := Lib.hid hbq
      have HB7 : Hid (Below w.heap.size w w7) := HB6.out.trans (hbq.mono HB6.out.size)
      have HB17 : Hid (Below w1.heap.size w1 w7) := HB16.out.trans (hbq.mono HB16.out.size)
      clear cV1 cV2 i0 i1 i2 j0 j1 j2 hw7 hbq
      obtain ⟨p0, p1, p2⟩ := HBP.out w7 HB17.out
      have hck := rCheck09_any p _ _ _ w7 (HP.out.below HB7.out) HW.out
      rcases Cd.check_is p with h0 | h0
      case inr =>
        rw [h0] at hck
        clear h0
        go_wp2_with (go_at_call 12; refine hck.mono ?_; clear hck p0 p1 p2; rintro e w8 ⟨rfl, hb8⟩)
        go_ret
        exact ⟨rfl, HB7.out.trans (hb8.mono HB7.out.size)⟩
      case inl =>
        have HH0 := Lib.hid h0
        rw [h0] at hck
        have HREP : Hid (Cd.PRep (fun _ => True) w6 p (.slice ag p.codes.length cg) (.slice bk p.consts.length dk) (.slice bn p.names.length dn)) := by
          have h := HOWN.out.rep
          rw [HFST.out, Cd.clone_same h0] at h
          exact h
        have hself := Cd.samePr_self h0
        clear h0
        go_wp2_with (go_at_call 12; refine hck.mono ?_; clear hck p0 p1 p2; rintro e w8 ⟨rfl, hb8⟩; have HB68 : Hid (Below w6.heap.size w6 w8) := HB67.out.trans (hb8.mono HB67.out.size); have HB8 : Hid (Below w.heap.size w w8) := HB7.out.trans (hb8.mono HB7.out.size); have HB18 : Hid (Below w1.heap.size w1 w8) := HB17.out.trans (hb8.mono HB17.out.size); obtain ⟨p0, p1, p2⟩ := HBP.out w8 HB18.out; obtain ⟨z0, z1, z2⟩ := HC6.out w8 HB68.out; refine Hid.out ?_)
        refine Lib.hid ?_
        have HSELF := Lib.hid hself
        have hs1 := rSameP_any p p _ _ _ _ _ _ w8 (HREP.out.below HB68.out) (HP.out.below HB8.out) HW.out HW.out
        rw [HSELF.out] at hs1
        clear hself hb8
        go_wp2_with (first | (go_at_call 17; refine hs1.mono ?_; clear hs1 p0 p1 p2 z0 z1 z2; rintro e w9 ⟨rfl, hb9⟩; have HB69 : Hid (Below w6.heap.size w6 w9) := HB68.out.trans (hb9.mono HB68.out.size); have HB9 : Hid (Below w.heap.size w w9) := HB8.out.trans (hb9.mono HB8.out.size); have HB19 : Hid (Below w1.heap.size w1 w9) := HB18.out.trans (hb9.mono HB18.out.size); obtain ⟨p0, p1, p2⟩ := HBP.out w9 HB19.out; have hs2 := cSame_any p p _ _ _ _ _ _ w9 (HP.out.below HB9.out) (HP.out.below HB9.out) HW.out HW.out; rw [HSELF.out] at hs2; clear hb9) | (go_at_call 16; refine hs2.mono ?_; clear hs2 p0 p1 p2; rintro e w10 ⟨rfl, hb10⟩; refine Hid.out ?_))
        refine Lib.hid ?_
        have HB60 : Hid (Below w6.heap.size w6 w10) := HB69.out.trans (hb10.mono HB69.out.size)
        have HB0 : Hid (Below w.heap.size w w10) := HB9.out.trans (hb10.mono HB9.out.size)
        have HB10 : Hid (Below w1.heap.size w1 w10) := HB19.out.trans (hb10.mono HB19.out.size)
        have HQ0 : Hid (w10.heap[Q]? = some (.cells #[.slice ag p.codes.length cg, .slice bk p.consts.length dk, .slice bn p.names.length dn] 26 (0, 0)) ∧ Q < w10.heap.size) := ⟨(HB60.out.block Q (by have := HS6.out; omega)).trans HQ6.out, by have := HS6.out; have := HB60.out.size; omega⟩
        obtain ⟨z0, z1, z2⟩ := HC6.out w10 HB60.out
        clear hb10 HB67 HB7 HB17 HB68 HB8 HB18 HB69 HB9 HB19
        go_wp2
        clear z0 z1 z2
        go_loopw [46] (fun v wr => ∃ k : Nat, v = .int .i64 k ∧ k ≤ p.codes.length ∧ Hid (Keep (Cd.SB ks k) w10 wr)) (fun v _ => p.codes.length - (intOf v).toNat)
        case atStart => exact ⟨0, rfl, by omega, Keep.refl _ _⟩
        case round =>
          obtain ⟨k, rfl, hk, HK⟩ := hrel
          have hzr := (HK.out.block Q HQ0.out.2 (fun e => by have := HBLT.out.2.1 k Q e; omega)).trans HQ0.out.1
          by_cases hlt : k < p.codes.length
          · have hlti : (k : Int) < (p.codes.length : Int) := by omega
            have hk2 : k < ks.length := by have := HKL.out; omega
            obtain ⟨g, cap, e0, hg1, hg2, hg3⟩ := HOWN.out.cs.form (by intro e; rw [e] at hk2; simp at hk2)
            injection e0 with e1 e2 e3
            subst e1 e3
            have hkc : ks[k].1 = p.codes[k] := by
              have h1 : (ks.map Prod.fst)[k]'(by rw [List.length_map]; exact hk2) = p.codes[k] := by simp only [HFST.out]
              rw [List.getElem_map] at h1
              exact h1
            have hpos : 0 < ks[k].1.ins.length := by
              rw [hkc]
              obtain ⟨-, -, hg⟩ := Cd.check_codes HH0.out
              exact List.length_pos_iff.2 (Cd.good_good (hg p.codes[k] (List.getElem_mem hlt))).ne
            have z0 : wr.cell? ⟨Q, 0, none⟩ = some (.slice (some ⟨g, 0, none⟩) p.codes.length cg) := by rw [Cd.hcell hzr]; rfl
            have v4 := HOWN.out.cs.vi hk2
            have hgn : ∀ k, ¬ Cd.SB ks k g := fun k e => by
              obtain ⟨j, hj, -, e⟩ := e
              exact HOWN.out.cs.ne j hj g e rfl
            have hs60 := HB60.out.size
            have v4' := (HK.out.cell (k * 5 + 4) (by omega : g < w10.heap.size) (hgn k)).trans ((HB60.out.cell (p := ⟨g, k * 5 + 4, none⟩) hg2).trans v4)
            obtain ⟨gk, capk, u, hke, hgm, hgl, hfz, hcell, hob⟩ := HOWN.out.cs.insForm hk2 hpos
            rw [hke] at v4'
            have hgkn : ¬ Cd.SB ks k gk := fun e => by
              obtain ⟨j, hj, hjk, e⟩ := e
              exact HOWN.out.cs.dj j k hj hk2 (by omega) gk e hob
            have y0 := (HK.out.cell 0 (by omega : gk < w10.heap.size) hgkn).trans ((HB60.out.cell (p := ⟨gk, 0, none⟩) hgl).trans hcell)
            have f0 := (HK.out.frozen 0 (by omega : gk < w10.heap.size) hgkn).trans ((((Keep.refl (fun _ => False) w6).below HB60.out).frozen 0 hgl id).trans hfz)
            obtain ⟨n, hn⟩ : ∃ n, ks[k].1.ins.length = n := ⟨_, rfl⟩
            rw [hn] at v4' hpos
            have hposi : (0 : Int) < (n : Int) := by omega
            obtain ⟨wn, hwn⟩ : ∃ wn, wr.setCell ⟨gk, 0, none⟩ (.int .i64 0) = wn := ⟨_, rfl⟩
            have HKN : Hid (Keep (Cd.SB ks (k + 1)) w10 wn) := by
              have h1 : Keep (fun b => b = gk) wr wn := by rw [← hwn]; exact (Keep.refl (fun b => b = gk) wr).setCell rfl _ _
              refine (HK.out.mono (fun b _ e => ?_)).trans (h1.mono (fun b _ e => ?_))
              · obtain ⟨j, hj, hjk, e⟩ := e
                exact ⟨j, hj, by omega, e⟩
              · exact ⟨k, hk2, by omega, by rw [e]; exact hob⟩
            clear hzr hkc v4 hgn hs60 hke hgm hgl hfz hcell hob hgkn hn hg1 hg2 hg3 e2
            go_wp2
            go_roundw
            case rel => exact ⟨k + 1, by simp, by omega, HKN⟩
            case measure => simp [intOf]; omega
          · have hge : (p.codes.length : Int) ≤ (k : Int) := by omega
            have z2 : wr.cell? ⟨Q, 2, none⟩ = some (.slice bn p.names.length dn) := by rw [Cd.hcell hzr]; rfl
            have HZG := Lib.hid hzr
            have HNR : Hid (Cd.NR wr w4.heap.size (.slice bn p.names.length dn) p.names.length) := by
              refine ⟨p.names.map Value.string, List.length_map _, ?_⟩
              have h1 := Cd.own_keep (S := fun _ => False) HOWN.out.no.1 ((Keep.refl _ w6).below HB60.out) (fun _ _ h => h)
              exact Cd.own_keep h1 HK.out (fun b e e2 => by have := HBLT.out.2.1 k b e2; have := HBLT.out.2.2 b e; omega)
            have HBG : Hid (Below w.heap.size w wr) := HB0.out.trans (HK.out.to_below (fun b e => by have := HBLT.out.2.1 k b e; have := HBLT.out.1; omega) HB0.out.size)
            have HB1G : Hid (Below w1.heap.size w1 wr) := HB10.out.trans (HK.out.to_below (fun b e => by have := HBLT.out.2.1 k b e; have := HBLT.out.1; have := HS1.out; omega) HB10.out.size)
            have HQG : Hid (Q < wr.heap.size) := by have h1 := HQ0.out.2; have h2 := HK.out.size; show _ < _; omega
            have hd' : (k < p.codes.length) = False := eq_false hlt
            clear hlt hzr hk
            go_wp2
            try simp only [hd', decide_false]
            clear hd' hge z2 HK
            obtain ⟨wG, rfl⟩ : ∃ wG : World, wG = wr := ⟨_, rfl⟩
            go_loopw [61] (fun v wr => ∃ k : Nat, v = .int .i64 k ∧ k ≤ p.names.length ∧ Hid (Cd.NR wr w4.heap.size (.slice bn p.names.length dn) p.names.length) ∧ Hid (Keep (fun b => (Value.slice bn p.names.length dn).ownBlock = some b) wG wr)) (fun v _ => p.names.length - (intOf v).toNat)
            case atStart => exact ⟨0, rfl, by omega, HNR, Keep.refl _ _⟩
            case round =>
              clear HNR
              obtain ⟨k, rfl, hk, HNR, HK⟩ := hrel
              by_cases hlt : k < p.names.length
              · have hlti : (k : Int) < (p.names.length : Int) := by omega
                have hzr := (HK.out.block Q HQG.out (fun e => by have := HBLT.out.2.2 Q e; omega)).trans HZG.out
                have z2 : wr.cell? ⟨Q, 2, none⟩ = some (.slice bn p.names.length dn) := by rw [Cd.hcell hzr]; rfl
                obtain ⟨g, u, rfl, hc, hf, hset⟩ := HNR.out.at hlt
                have HN := hset (.string ⟨#[]⟩)
                obtain ⟨wn, hwn⟩ : ∃ wn, wr.setCell ⟨g, k, none⟩ (.string ⟨#[]⟩) = wn := ⟨_, rfl⟩
                rw [hwn] at HN
                have HNN := Lib.hid HN
                have HKN : Hid (Keep (fun b => (Value.slice (some ⟨g, 0, none⟩) p.names.length dn).ownBlock = some b) wG wn) := by
                  have h1 : Keep (fun b => b = g) wr wn := by rw [← hwn]; exact (Keep.refl (fun b => b = g) wr).setCell rfl _ _
                  exact HK.out.trans (h1.mono (fun b _ e => by rw [e]; rfl))
                clear HN hset hzr
                go_wp2
                go_roundw
                case rel => exact ⟨k + 1, by simp, by omega, HNN, HKN⟩
                case measure => simp [intOf]; omega
              · have hge : (p.names.length : Int) ≤ (k : Int) := by omega
                have HBE : Hid (Below w.heap.size w wr) := HBG.out.trans (HK.out.to_below (fun b e => by have := HBLT.out.2.2 b e; omega) HBG.out.size)
                have HB1E : Hid (Below w1.heap.size w1 wr) := HB1G.out.trans (HK.out.to_below (fun b e => by have := HBLT.out.2.2 b e; have := HS1.out; omega) HB1G.out.size)
                obtain ⟨p0, p1, p2⟩ := HBP.out wr HB1E.out
                have hck := rCheck09_any p _ _ _ wr (HP.out.below HBE.out) HW.out
                rw [HH0.out] at hck
                clear hlt hk
                go_wp2_with (go_at_call 12; refine hck.mono ?_; clear hck p0 p1 p2; rintro e w8 ⟨rfl, hb8⟩)
                go_ret
                exact ⟨rfl, HBE.out.trans (hb8.mono HBE.out.size)⟩
theorem CodeSame_law {F G : Nat → Prop} (p : Cd.Prog) (vc vk vn : Value) (q : Cd.Prog) (uc uk un : Value) (w : World) (hp : Cd.PRep F w p vc vk vn) (hw : Cd.PWf p) (hq : Cd.PRep G w q uc uk un) (hw' : Cd.PWf q) :
    Calls Try.prog 6 #[.agg #[vc, vk, vn], .agg #[uc, uk, un]] w fun e w' => e = .returned (.bool true) ∧ Below w.heap.size w w' := CodeSame_walk p q vc vk vn uc uk un w hp hq hw hw'
end Go.Proofs.Ytlckjphnbfahgaa
