/-
  datum.Same at whatever two data.
-/
import Derived.Test.YtlckjphnbfahgaaGreatDoorDtCheck
import Derived.Test.YtlckjphnbfahgaaGreatDoorDtSame
namespace Go.Proofs.YtlckjphnbfahgaaGreatDoor
open Go.RowKit
set_option maxRecDepth 100000 in
set_option maxHeartbeats 2000000 in
theorem iEqual_any {F G : Nat → Prop} (va vb : Value) (m m' : List Int) (w : World) (ha : Dt.IRow F w va m) (hb : Dt.IRow G w vb m') (hl : m.length ≤ 140737488355328) (_hl' : m'.length ≤ 140737488355328) :
    Calls Tryz.prog 16 #[va, vb] w fun e w' => e = .returned (.bool (decide (m = m'))) ∧ Below w.heap.size w w' := by
  obtain ⟨a, c, rfl, _, hc⟩ := ha
  obtain ⟨a', c', rfl, _, hc'⟩ := hb
  obtain ⟨R, hR⟩ : ∃ R, R = decide (m = m') := ⟨_, rfl⟩
  rw [← hR]
  by_cases hlen : m.length = m'.length
  case neg =>
    have hne : ((m.length : Int) != (m'.length : Int)) = true := by simpa using fun h => hlen (by omega)
    have HR : Hid (R = false) := by show _ = _; rw [hR]; exact decide_eq_false (fun e => hlen (by rw [e]))
    clear hc hc' hR hlen
    go_enter Tryz.func16, Tryz.ntmps16
    go_wp2
    go_ret
    exact ⟨by rw [HR.out]; rfl, Below.refl _ _⟩
  have hne : ((m.length : Int) != (m'.length : Int)) = false := by simp [hlen]
  have H0 : Hid (R = decide (m.drop 0 = m'.drop 0)) := by show _ = _; rw [List.drop_zero, List.drop_zero]; exact hR
  have HC := Lib.hid hc
  have HC' := Lib.hid hc'
  have HL := Lib.hid hlen
  clear hc hc' hR hlen
  go_enter Tryz.func16, Tryz.ntmps16
  go_wp2
  go_loopw [13] (fun v wr => ∃ k : Nat, v = .int .i64 k ∧ k ≤ m.length ∧ Hid (R = decide (m.drop k = m'.drop k)) ∧ ∃ q, wr = w.drewN q) (fun v _ => m.length - (intOf v).toNat)
  case atStart => exact ⟨0, rfl, by omega, H0, 0, rfl⟩
  case round =>
    obtain ⟨k, rfl, hk, HR, q, rfl⟩ := hrel
    by_cases hlt : k < m.length
    · have hlti : (k : Int) < (m.length : Int) := by omega
      have hlt' : k < m'.length := by have := HL.out; omega
      have hlti' : (k : Int) < (m'.length : Int) := by omega
      obtain ⟨b, o, rfl, _, hb, hcell⟩ := HC.out (by intro h0; rw [h0] at hlt; simp at hlt)
      obtain ⟨b', o', rfl, _, hb', hcell'⟩ := HC'.out (by intro h0; rw [h0] at hlt'; simp at hlt')
      have x0 := hcell k hlt
      have y0 := hcell' k hlt'
      have hr := HR.out
      rw [List.drop_eq_getElem_cons hlt, List.drop_eq_getElem_cons hlt'] at hr
      obtain ⟨x, hx⟩ : ∃ x, m[k] = x := ⟨_, rfl⟩
      obtain ⟨y, hy⟩ : ∃ y, m'[k] = y := ⟨_, rfl⟩
      rw [hx] at x0 hr
      rw [hy] at y0 hr
      clear hx hy hcell hcell'
      by_cases hxy : x = y
      · have hxe : (x != y) = false := by simp [hxy]
        have HN : Hid (R = decide (m.drop (k + 1) = m'.drop (k + 1))) := by show _ = _; rw [hr]; simp [hxy]
        clear hr
        go_wp2
        go_quiet (fail)
        go_wp2
        go_roundw
        case rel => exact ⟨k + 1, by simp, by omega, HN, _, rfl⟩
        case measure => simp [intOf]; omega
      · have hxe : (x != y) = true := by simpa using hxy
        have HN : Hid (R = false) := by show _ = _; rw [hr]; simp [hxy]
        clear hr hxy
        go_wp2
        go_quiet (fail)
        go_wp2
        go_ret
        exact ⟨by rw [HN.out]; rfl, ⟨rfl, rfl, rfl, Nat.le_refl _, fun _ _ => rfl⟩⟩
    · have hge : (m.length : Int) ≤ (k : Int) := by omega
      have HN : Hid (R = true) := by show _ = _; rw [HR.out, List.drop_eq_nil_of_le (by omega), List.drop_eq_nil_of_le (by have := HL.out; omega)]; rfl
      go_wp2
      go_ret
      exact ⟨by rw [HN.out]; rfl, ⟨rfl, rfl, rfl, Nat.le_refl _, fun _ _ => rfl⟩⟩
namespace Dt
/-- what datum.equal answers at a datum and whatever other one -/
def EqC (y : D) : Prop := ∀ (F G : Nat → Prop) (z : D) (vm vl vt um ul ut : Value) (w : World), Wf y → Wf z → Rep F w y vm vl vt → Rep G w z um ul ut →
  Calls Tryz.prog 50 #[.agg #[.int .i64 y.k, .int .i64 y.n, .string y.s, vm, vl, vt], .agg #[.int .i64 z.k, .int .i64 z.n, .string z.s, um, ul, ut]] w fun e w' => e = .returned (.bool (eqD y z)) ∧ Below w.heap.size w w'
theorem six_of' (w : World) (x : D) (vm vl vt : Value) (t : TypeId) : Six (w.alloc (.cells #[.int .i64 x.k, .int .i64 x.n, .string x.s, vm, vl, vt] t)) w.heap.size 0 x vm vl vt := by
  have h := six_new w x.k x.n x.s vm vl vt t
  exact ⟨h 0 (by omega), h 1 (by omega), h 2 (by omega), h 3 (by omega), h 4 (by omega), h 5 (by omega)⟩
theorem eqDs_len : ∀ (l r : List D), l.length ≠ r.length → eqDs l r = false
  | [], [], h => absurd rfl h
  | [], _ :: _, _ => rfl
  | _ :: _, [], _ => rfl
  | a :: l, b :: r, h => by rw [eqDs, eqDs_len l r (by simpa using h)]; simp
end Dt
set_option maxRecDepth 100000 in
set_option maxHeartbeats 4000000 in
theorem eqFunc_any {F G : Nat → Prop} (va vb : Value) (l r : List Dt.D) (w : World) (ha : Dt.Row F w va l) (hb : Dt.Row G w vb r) (hl : l.length ≤ 140737488355328) (_hl' : r.length ≤ 140737488355328) (hW : Dt.Wfs l) (hW' : Dt.Wfs r) (hE : ∀ y ∈ l, Dt.EqC y) :
    Calls Tryz.prog 70 #[va, vb, .func (.func 50) #[] #[]] w fun e w' => e = .returned (.bool (Dt.eqDs l r)) ∧ Below w.heap.size w w' := by
  obtain ⟨a, c, rfl, _, hc⟩ := ha
  obtain ⟨a', c', rfl, _, hc'⟩ := hb
  obtain ⟨R, hR⟩ : ∃ R, R = Dt.eqDs l r := ⟨_, rfl⟩
  rw [← hR]
  by_cases hlen : l.length = r.length
  case neg =>
    have hne : ((l.length : Int) != (r.length : Int)) = true := by simpa using fun h => hlen (by omega)
    have HR : Hid (R = false) := by show _ = _; rw [hR]; exact Dt.eqDs_len _ _ hlen
    clear hc hc' hR hlen hE
    go_enter Tryz.func70, Tryz.ntmps70
    go_wp2
    go_ret
    exact ⟨by rw [HR.out]; rfl, Below.refl _ _⟩
  have hne : ((l.length : Int) != (r.length : Int)) = false := by simp [hlen]
  have H0 : Hid (R = Dt.eqDs (l.drop 0) (r.drop 0)) := by show _ = _; rw [List.drop_zero, List.drop_zero]; exact hR
  have HC := Lib.hid hc
  have HC' := Lib.hid hc'
  have HL := Lib.hid hlen
  have HW := Lib.hid hW
  have HW' := Lib.hid hW'
  have HE := Lib.hid hE
  clear hc hc' hR hlen hE hW hW'
  go_enter Tryz.func70, Tryz.ntmps70
  go_wp2
  go_loopw [17] (fun v wr => ∃ k : Nat, v = .int .i64 k ∧ k ≤ l.length ∧ Hid (R = Dt.eqDs (l.drop k) (r.drop k)) ∧ Hid (Below w.heap.size w wr)) (fun v _ => l.length - (intOf v).toNat)
  case atStart => exact ⟨0, rfl, by omega, H0, Below.refl _ _⟩
  case round =>
    obtain ⟨k, rfl, hk, HR, HB⟩ := hrel
    by_cases hlt : k < l.length
    · have hlti : (k : Int) < (l.length : Int) := by omega
      have hlt' : k < r.length := by have := HL.out; omega
      have hlti' : (k : Int) < (r.length : Int) := by omega
      obtain ⟨b, o, hao, hFb, hbl, hreps⟩ := HC.out (by intro h0; rw [h0] at hlt; simp at hlt)
      obtain ⟨b', o', hao', hFb', hbl', hreps'⟩ := HC'.out (by intro h0; rw [h0] at hlt'; simp at hlt')
      subst hao hao'
      have hkp : Keep (fun _ => False) w wr := (Keep.refl _ w).below HB.out
      obtain ⟨vm, vl, vt, hs, hrp⟩ := (Dt.Reps.keep hkp (fun k hk _ h => h) _ hFb hbl hreps).at k hlt
      obtain ⟨um, ul, ut, hs', hrp'⟩ := (Dt.Reps.keep hkp (fun k hk _ h => h) _ hFb' hbl' hreps').at k hlt'
      obtain ⟨a1, n1, c1, a2, n2, c2, a3, n3, c3, rfl, rfl, rfl⟩ := hrp.forms
      obtain ⟨d1, p1, q1, d2, p2, q2, d3, p3, q3, rfl, rfl, rfl⟩ := hrp'.forms
      have hr := HR.out
      rw [List.drop_eq_getElem_cons hlt, List.drop_eq_getElem_cons hlt', Dt.eqDs] at hr
      have hy := HE.out l[k] (List.getElem_mem hlt)
      have hwf := HW.out.at k hlt
      have hwf' := HW'.out.at k hlt'
      obtain ⟨y, hyy⟩ : ∃ y, l[k] = y := ⟨_, rfl⟩
      obtain ⟨z, hzz⟩ : ∃ z, r[k] = z := ⟨_, rfl⟩
      rw [hyy] at hs hrp hr hy hwf
      rw [hzz] at hs' hrp' hr hwf'
      obtain ⟨y0, y1, y2, y3, y4, y5⟩ := hs
      obtain ⟨wc, hwc⟩ : ∃ wc, wr.alloc (.cells #[.int .i64 y.k, .int .i64 y.n, .string y.s, .slice a1 n1 c1, .slice a2 n2 c2, .slice a3 n3 c3] 52) = wc := ⟨_, rfl⟩
      have hbc : Below wr.heap.size wr wc := by rw [← hwc]; exact (Below.refl _ _).alloc (Nat.le_refl _) _
      obtain ⟨z0, z1, z2, z3, z4, z5⟩ := hs'.keep (S := fun _ => False) ((Keep.refl _ _).below hbc) (Nat.lt_of_lt_of_le hbl' HB.out.size) id
      obtain ⟨wd, hwd⟩ : ∃ wd, wc.alloc (.cells #[.int .i64 z.k, .int .i64 z.n, .string z.s, .slice d1 p1 q1, .slice d2 p2 q2, .slice d3 p3 q3] 52) = wd := ⟨_, rfl⟩
      have hbd : Below wc.heap.size wc wd := by rw [← hwd]; exact (Below.refl _ _).alloc (Nat.le_refl _) _
      have hcall := hy F G z _ _ _ _ _ _ wd hwf hwf' ((hrp.below hbc).below hbd) ((hrp'.below hbc).below hbd)
      obtain ⟨V, hV⟩ : ∃ V, Dt.eqD y z = V := ⟨_, rfl⟩
      rw [hV] at hcall hr
      have HCALL := Lib.hid hcall
      have HBD : Hid (Below w.heap.size w wd) := (HB.out.trans (hbc.mono HB.out.size)).trans (hbd.mono (Nat.le_trans HB.out.size hbc.size))
      have HRR := Lib.hid hr
      have HBD2 := Lib.hid hbd
      have hltc : wr.heap.size < wc.heap.size := by rw [← hwc, World.size_alloc]; omega
      clear hcall hr hy hwf hwf' hrp hrp' hreps hreps' hkp hyy hzz hbc hbd hFb hFb' hbl hbl' hV
      obtain ⟨YB, hYB⟩ : ∃ YB, wr.heap.size = YB := ⟨_, rfl⟩
      obtain ⟨ZB, hZB⟩ : ∃ ZB, wc.heap.size = ZB := ⟨_, rfl⟩
      have hsy : Dt.Six wd YB 0 y (.slice a1 n1 c1) (.slice a2 n2 c2) (.slice a3 n3 c3) := by
        have h := Dt.six_of' wr y (.slice a1 n1 c1) (.slice a2 n2 c2) (.slice a3 n3 c3) 52
        rw [hwc, hYB] at h
        exact h.keep (S := fun _ => False) ((Keep.refl _ _).below HBD2.out) (by rw [← hYB]; exact hltc) id
      have hsz : Dt.Six wd ZB 0 z (.slice d1 p1 q1) (.slice d2 p2 q2) (.slice d3 p3 q3) := by
        have h := Dt.six_of' wc z (.slice d1 p1 q1) (.slice d2 p2 q2) (.slice d3 p3 q3) 52
        rw [hwd, hZB] at h
        exact h
      obtain ⟨s0, s1, s2, s3, s4, s5⟩ := hsy
      obtain ⟨t0, t1, t2, t3, t4, t5⟩ := hsz
      simp only [Nat.zero_add] at s0 s1 s2 s3 s4 s5 t0 t1 t2 t3 t4 t5
      clear hltc
      cases V with
      | false =>
        have HN : Hid (R = false) := by show _ = _; rw [HRR.out]; rfl
        clear HRR
        go_wp2_with (go_at_call 50; refine HCALL.out.mono ?_; rintro e w9 ⟨rfl, hb9⟩; have HB9 : Hid (Below w.heap.size w w9) := HBD.out.trans (hb9.mono HBD.out.size); clear hb9 HCALL HBD HBD2 hwc hwd hYB hZB s0 s1 s2 s3 s4 s5 t0 t1 t2 t3 t4 t5 y0 y1 y2 y3 y4 y5 z0 z1 z2 z3 z4 z5)
        go_ret
        exact ⟨by rw [HN.out]; rfl, HB9.out⟩
      | true =>
        have HN : Hid (R = Dt.eqDs (l.drop (k + 1)) (r.drop (k + 1))) := by show _ = _; rw [HRR.out]; rfl
        clear HRR
        go_wp2_with (go_at_call 50; refine HCALL.out.mono ?_; rintro e w9 ⟨rfl, hb9⟩; have HB9 : Hid (Below w.heap.size w w9) := HBD.out.trans (hb9.mono HBD.out.size); clear hb9 HCALL HBD HBD2 hwc hwd hYB hZB s0 s1 s2 s3 s4 s5 t0 t1 t2 t3 t4 t5 y0 y1 y2 y3 y4 y5 z0 z1 z2 z3 z4 z5)
        go_roundw
        case rel => exact ⟨k + 1, by simp, by omega, HN, HB9⟩
        case measure => simp [intOf]; omega
    · have hge : (l.length : Int) ≤ (k : Int) := by omega
      have HN : Hid (R = true) := by show _ = _; rw [HR.out, List.drop_eq_nil_of_le (by omega), List.drop_eq_nil_of_le (by have := HL.out; omega)]; rfl
      go_wp2
      go_ret
      exact ⟨by rw [HN.out]; rfl, HB.out⟩
set_option maxRecDepth 100000 in
set_option maxHeartbeats 4000000 in
theorem equal_step (x : Dt.D) (hl : ∀ y ∈ x.l, Dt.EqC y) (ht : ∀ y ∈ x.t, Dt.EqC y) : Dt.EqC x := by
  intro F G z vm vl vt um ul ut w hW hW' hR hR'
  obtain ⟨w1, hw1⟩ : ∃ w1, w.alloc (.cells #[.int .i64 x.k, .int .i64 x.n, .string x.s, vm, vl, vt] 52) = w1 := ⟨_, rfl⟩
  obtain ⟨w2, hw2⟩ : ∃ w2, w1.alloc (.cells #[.int .i64 z.k, .int .i64 z.n, .string z.s, um, ul, ut] 52) = w2 := ⟨_, rfl⟩
  have hb1 : Below w.heap.size w w1 := by rw [← hw1]; exact (Below.refl _ _).alloc (Nat.le_refl _) _
  have hb2 : Below w1.heap.size w1 w2 := by rw [← hw2]; exact (Below.refl _ _).alloc (Nat.le_refl _) _
  have hz1 : w1.heap.size = w.heap.size + 1 := by rw [← hw1, World.size_alloc]
  have hz2 : w2.heap.size = w.heap.size + 2 := by rw [← hw2, World.size_alloc, hz1]
  have hsx : Dt.Six w2 w.heap.size 0 x vm vl vt := by
    have h := Dt.six_of' w x vm vl vt 52
    rw [hw1] at h
    exact h.keep (S := fun _ => False) ((Keep.refl _ _).below hb2) (by omega) id
  obtain ⟨Z, hZ⟩ : ∃ Z, w1.heap.size = Z := ⟨_, rfl⟩
  have hsz : Dt.Six w2 Z 0 z um ul ut := by
    have h := Dt.six_of' w1 z um ul ut 52
    rw [hw2, hZ] at h
    exact h
  have HB := Lib.hid (hb1.trans (hb2.mono (by omega)))
  have HR := Lib.hid ((hR.below hb1).below hb2)
  have HR' := Lib.hid ((hR'.below hb1).below hb2)
  have h3 := (Dt.rep_iff F w2 x vm vl vt).1 HR.out
  have h3' := (Dt.rep_iff G w2 z um ul ut).1 HR'.out
  have hm := iEqual_any vm um x.m z.m w2 h3.1 h3'.1 (Dt.wf_m hW) (Dt.wf_m hW')
  have hLc := fun u (hu : Below w2.heap.size w2 u) => eqFunc_any vl ul x.l z.l u (((Dt.rep_iff F u x vm vl vt).1 (HR.out.below hu)).2.1) (((Dt.rep_iff G u z um ul ut).1 (HR'.out.below hu)).2.1) (Dt.wf_len hW).1 (Dt.wf_len hW').1 (Dt.wf_l hW) (Dt.wf_l hW') hl
  have hTc := fun u (hu : Below w2.heap.size w2 u) => eqFunc_any vt ut x.t z.t u (((Dt.rep_iff F u x vm vl vt).1 (HR.out.below hu)).2.2) (((Dt.rep_iff G u z um ul ut).1 (HR'.out.below hu)).2.2) (Dt.wf_len hW).2 (Dt.wf_len hW').2 (Dt.wf_t hW) (Dt.wf_t hW') ht
  obtain ⟨x0, x1, x2, x3, x4, x5⟩ := hsx
  obtain ⟨z0, z1, z2, z3, z4, z5⟩ := hsz
  have HSX : Hid (Dt.Six w2 w.heap.size 0 x vm vl vt) := ⟨x0, x1, x2, x3, x4, x5⟩
  have HSZ : Hid (Dt.Six w2 Z 0 z um ul ut) := ⟨z0, z1, z2, z3, z4, z5⟩
  simp only [Nat.zero_add] at x0 x1 x2 x3 x4 x5 z0 z1 z2 z3 z4 z5
  have hev : Dt.eqD x z = (decide (x.k = z.k) && decide (x.n = z.n) && decide (x.s.data.toList = z.s.data.toList) && decide (x.m = z.m) && Dt.eqDs x.l z.l && Dt.eqDs x.t z.t) := by
    cases x; cases z; rw [Dt.eqD]; rfl
  obtain ⟨a1, n1, c1, a2, n2, c2, a3, n3, c3, rfl, rfl, rfl⟩ := hR.forms
  obtain ⟨d1, p1, q1, d2, p2, q2, d3, p3, q3, rfl, rfl, rfl⟩ := hR'.forms
  have HM := Lib.hid hm
  have HLC := Lib.hid hLc
  have HTC := Lib.hid hTc
  have HEV := Lib.hid hev
  have HZ2 : Hid (w.heap.size < w2.heap.size ∧ Z < w2.heap.size) := ⟨by omega, by omega⟩
  clear hm hLc hTc hev h3 h3' hR hR' hW hW' hb1 hb2 hl ht hz1 hz2
  by_cases k1 : x.k = z.k
  case neg =>
    have b1 : (x.k == z.k) = false := by simpa using k1
    have HN : Hid (Dt.eqD x z = false) := by show _ = _; rw [HEV.out]; simp [k1]
    clear k1
    go_enter Tryz.func50, Tryz.ntmps50
    go_wp2_with (fail)
    go_ret
    exact ⟨by rw [HN.out]; rfl, HB.out⟩
  have b1 : (x.k == z.k) = true := by simpa using k1
  have K1 := Lib.hid k1
  clear k1
  by_cases k2 : x.n = z.n
  case neg =>
    have b2 : (x.n == z.n) = false := by simpa using k2
    have HN : Hid (Dt.eqD x z = false) := by show _ = _; rw [HEV.out]; simp [K1.out, k2]
    clear k2
    go_enter Tryz.func50, Tryz.ntmps50
    go_wp2_with (fail)
    go_ret
    exact ⟨by rw [HN.out]; rfl, HB.out⟩
  have b2 : (x.n == z.n) = true := by simpa using k2
  have K2 := Lib.hid k2
  clear k2
  by_cases k3 : x.s.data.toList = z.s.data.toList
  case neg =>
    have b3 : (x.s.data == z.s.data) = false := by rw [beq_eq_false_iff_ne]; intro e; exact k3 (by rw [e])
    have b3b : decide (x.s = z.s) = false := by simpa using fun e => k3 (by rw [e])
    have b3c : (x.s.toList == z.s.toList) = false := by rw [ByteArray.toList_eq, ByteArray.toList_eq]; simpa using k3
    have b3d : (x.s == z.s) = false := b3
    have HN : Hid (Dt.eqD x z = false) := by show _ = _; rw [HEV.out]; simp [K1.out, K2.out, k3]
    clear k3
    go_enter Tryz.func50, Tryz.ntmps50
    go_wp2_with (fail)
    go_ret
    exact ⟨by rw [HN.out]; rfl, HB.out⟩
  have b3 : (x.s.data == z.s.data) = true := by rw [Dt.bytes_ext k3]; simp
  have b3b : decide (x.s = z.s) = true := decide_eq_true (Dt.bytes_ext k3)
  have b3c : (x.s.toList == z.s.toList) = true := by rw [Dt.bytes_ext k3]; simp
  have b3d : (x.s == z.s) = true := b3
  have K3 := Lib.hid k3
  clear k3
  by_cases k4 : x.m = z.m
  case neg =>
    have b4 : decide (x.m = z.m) = false := decide_eq_false k4
    have HN : Hid (Dt.eqD x z = false) := by show _ = _; rw [HEV.out]; simp [K1.out, K2.out, K3.out, k4]
    clear k4
    go_enter Tryz.func50, Tryz.ntmps50
    go_wp2_with (first | (go_at_call 16; refine HM.out.mono ?_; clear x0 x1 x2 x3 x4 x5 z0 z1 z2 z3 z4 z5; rintro e w3 ⟨rfl, hb3⟩; have HB3 := Lib.hid hb3; clear hb3 hw1 hw2; obtain ⟨x0, x1, x2, x3, x4, x5⟩ := HSX.out.keep (S := fun _ => False) ((Keep.refl _ _).below HB3.out) HZ2.out.1 id; obtain ⟨z0, z1, z2, z3, z4, z5⟩ := HSZ.out.keep (S := fun _ => False) ((Keep.refl _ _).below HB3.out) HZ2.out.2 id; simp only [Nat.zero_add] at x0 x1 x2 x3 x4 x5 z0 z1 z2 z3 z4 z5))
    go_ret
    exact ⟨by rw [HN.out]; rfl, HB.out.trans (HB3.out.mono HB.out.size)⟩
  have b4 : decide (x.m = z.m) = true := decide_eq_true k4
  have K4 := Lib.hid k4
  clear k4
  by_cases k5 : Dt.eqDs x.l z.l = true
  case neg =>
    have b5 : Dt.eqDs x.l z.l = false := by simpa using k5
    have HN : Hid (Dt.eqD x z = false) := by show _ = _; rw [HEV.out]; simp [K1.out, K2.out, K3.out, K4.out, k5]
    clear k5
    go_enter Tryz.func50, Tryz.ntmps50
    go_wp2_with (first | (go_at_call 16; refine HM.out.mono ?_; clear x0 x1 x2 x3 x4 x5 z0 z1 z2 z3 z4 z5; rintro e w3 ⟨rfl, hb3⟩; have HB3 := Lib.hid hb3; clear hb3 hw1 hw2; obtain ⟨x0, x1, x2, x3, x4, x5⟩ := HSX.out.keep (S := fun _ => False) ((Keep.refl _ _).below HB3.out) HZ2.out.1 id; obtain ⟨z0, z1, z2, z3, z4, z5⟩ := HSZ.out.keep (S := fun _ => False) ((Keep.refl _ _).below HB3.out) HZ2.out.2 id; simp only [Nat.zero_add] at x0 x1 x2 x3 x4 x5 z0 z1 z2 z3 z4 z5) | (go_at_call 70; with_reducible refine (HLC.out _ HB3.out).mono ?_; clear x0 x1 x2 x3 x4 x5 z0 z1 z2 z3 z4 z5; rintro e w4 ⟨rfl, hb4⟩; have HB4 := Lib.hid (HB3.out.trans (hb4.mono HB3.out.size)); clear hb4; obtain ⟨x0, x1, x2, x3, x4, x5⟩ := HSX.out.keep (S := fun _ => False) ((Keep.refl _ _).below HB4.out) HZ2.out.1 id; obtain ⟨z0, z1, z2, z3, z4, z5⟩ := HSZ.out.keep (S := fun _ => False) ((Keep.refl _ _).below HB4.out) HZ2.out.2 id; simp only [Nat.zero_add] at x0 x1 x2 x3 x4 x5 z0 z1 z2 z3 z4 z5))
    go_ret
    exact ⟨by rw [HN.out]; rfl, HB.out.trans (HB4.out.mono HB.out.size)⟩
  have b5 : Dt.eqDs x.l z.l = true := k5
  have K5 := Lib.hid k5
  clear k5
  by_cases k6 : Dt.eqDs x.t z.t = true
  case neg =>
    have b6 : Dt.eqDs x.t z.t = false := by simpa using k6
    have HN : Hid (Dt.eqD x z = false) := by show _ = _; rw [HEV.out]; simp [K1.out, K2.out, K3.out, K4.out, K5.out, k6]
    clear k6
    go_enter Tryz.func50, Tryz.ntmps50
    go_wp2_with (first | (go_at_call 16; refine HM.out.mono ?_; clear x0 x1 x2 x3 x4 x5 z0 z1 z2 z3 z4 z5; rintro e w3 ⟨rfl, hb3⟩; have HB3 := Lib.hid hb3; clear hb3 hw1 hw2; obtain ⟨x0, x1, x2, x3, x4, x5⟩ := HSX.out.keep (S := fun _ => False) ((Keep.refl _ _).below HB3.out) HZ2.out.1 id; obtain ⟨z0, z1, z2, z3, z4, z5⟩ := HSZ.out.keep (S := fun _ => False) ((Keep.refl _ _).below HB3.out) HZ2.out.2 id; simp only [Nat.zero_add] at x0 x1 x2 x3 x4 x5 z0 z1 z2 z3 z4 z5) | (go_at_call 70; with_reducible refine (HLC.out _ HB3.out).mono ?_; clear x0 x1 x2 x3 x4 x5 z0 z1 z2 z3 z4 z5; rintro e w4 ⟨rfl, hb4⟩; have HB4 := Lib.hid (HB3.out.trans (hb4.mono HB3.out.size)); clear hb4; obtain ⟨x0, x1, x2, x3, x4, x5⟩ := HSX.out.keep (S := fun _ => False) ((Keep.refl _ _).below HB4.out) HZ2.out.1 id; obtain ⟨z0, z1, z2, z3, z4, z5⟩ := HSZ.out.keep (S := fun _ => False) ((Keep.refl _ _).below HB4.out) HZ2.out.2 id; simp only [Nat.zero_add] at x0 x1 x2 x3 x4 x5 z0 z1 z2 z3 z4 z5) | (go_at_call 70; with_reducible refine (HTC.out _ HB4.out).mono ?_; clear x0 x1 x2 x3 x4 x5 z0 z1 z2 z3 z4 z5; rintro e w5 ⟨rfl, hb5⟩; have HB5 := Lib.hid (HB4.out.trans (hb5.mono HB4.out.size)); clear hb5))
    go_ret
    exact ⟨by rw [HN.out]; rfl, HB.out.trans (HB5.out.mono HB.out.size)⟩
  have b6 : Dt.eqDs x.t z.t = true := k6
  have K6 := Lib.hid k6
  clear k6
  have HN : Hid (Dt.eqD x z = true) := by show _ = _; rw [HEV.out]; simp [K1.out, K2.out, K3.out, K4.out, K5.out, K6.out]
  go_enter Tryz.func50, Tryz.ntmps50
  go_wp2_with (first | (go_at_call 16; refine HM.out.mono ?_; clear x0 x1 x2 x3 x4 x5 z0 z1 z2 z3 z4 z5; rintro e w3 ⟨rfl, hb3⟩; have HB3 := Lib.hid hb3; clear hb3 hw1 hw2; obtain ⟨x0, x1, x2, x3, x4, x5⟩ := HSX.out.keep (S := fun _ => False) ((Keep.refl _ _).below HB3.out) HZ2.out.1 id; obtain ⟨z0, z1, z2, z3, z4, z5⟩ := HSZ.out.keep (S := fun _ => False) ((Keep.refl _ _).below HB3.out) HZ2.out.2 id; simp only [Nat.zero_add] at x0 x1 x2 x3 x4 x5 z0 z1 z2 z3 z4 z5) | (go_at_call 70; with_reducible refine (HLC.out _ HB3.out).mono ?_; clear x0 x1 x2 x3 x4 x5 z0 z1 z2 z3 z4 z5; rintro e w4 ⟨rfl, hb4⟩; have HB4 := Lib.hid (HB3.out.trans (hb4.mono HB3.out.size)); clear hb4; obtain ⟨x0, x1, x2, x3, x4, x5⟩ := HSX.out.keep (S := fun _ => False) ((Keep.refl _ _).below HB4.out) HZ2.out.1 id; obtain ⟨z0, z1, z2, z3, z4, z5⟩ := HSZ.out.keep (S := fun _ => False) ((Keep.refl _ _).below HB4.out) HZ2.out.2 id; simp only [Nat.zero_add] at x0 x1 x2 x3 x4 x5 z0 z1 z2 z3 z4 z5) | (go_at_call 70; with_reducible refine (HTC.out _ HB4.out).mono ?_; clear x0 x1 x2 x3 x4 x5 z0 z1 z2 z3 z4 z5; rintro e w5 ⟨rfl, hb5⟩; have HB5 := Lib.hid (HB4.out.trans (hb5.mono HB4.out.size)); clear hb5))
  go_ret
  exact ⟨by rw [HN.out]; rfl, HB.out.trans (HB5.out.mono HB.out.size)⟩
end Go.Proofs.YtlckjphnbfahgaaGreatDoor
