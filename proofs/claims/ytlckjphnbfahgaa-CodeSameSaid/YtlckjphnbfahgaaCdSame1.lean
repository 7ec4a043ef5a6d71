/-
  code.Check's closure, and slices.ContainsFunc over it: whether a datum is the same as one of a row.
-/
import Derived.Test.YtlckjphnbfahgaaDtSameP
import Derived.Test.YtlckjphnbfahgaaCdModel
namespace Go.Proofs.Ytlckjphnbfahgaa
open Go.RowKit
set_option maxRecDepth 100000 in
set_option maxHeartbeats 2000000 in
theorem check1_any {F G : Nat → Prop} (x d : Dt.D) (vm vl vt um ul ut : Value) (B : Nat) (w : World) (hW : Dt.Wf x) (hW' : Dt.Wf d) (hR : Dt.Rep F w x vm vl vt) (hR' : Dt.Rep G w d um ul ut) (hB : Dt.Six w B 0 d um ul ut) :
    Calls Try.prog 26 #[.agg #[.int .i64 x.k, .int .i64 x.n, .string x.s, vm, vl, vt], .pointer (some ⟨B, 0, none⟩)] w fun e w' => e = .returned (.bool (Dt.sameD x d)) ∧ Below w.heap.size w w' := by
  obtain ⟨w1, hw1⟩ : ∃ w1, w.alloc (.cells #[.int .i64 x.k, .int .i64 x.n, .string x.s, vm, vl, vt] 55) = w1 := ⟨_, rfl⟩
  have hb1 : Below w.heap.size w w1 := by rw [← hw1]; exact (Below.refl _ _).alloc (Nat.le_refl _) _
  have hz1 : w1.heap.size = w.heap.size + 1 := by rw [← hw1, World.size_alloc]
  have hsx : Dt.Six w1 w.heap.size 0 x vm vl vt := by
    have h := Dt.six_of' w x vm vl vt 55
    rw [hw1] at h
    exact h
  have hsd : Dt.Six w1 B 0 d um ul ut := hB.keep (S := fun _ => False) ((Keep.refl _ _).below hb1) (block_lt_of_cell hB.1) id
  have hs := dSame_any x d vm vl vt um ul ut w1 hW hW' (hR.below hb1) (hR'.below hb1)
  obtain ⟨x0, x1, x2, x3, x4, x5⟩ := hsx
  obtain ⟨z0, z1, z2, z3, z4, z5⟩ := hsd
  simp only [Nat.zero_add] at x0 x1 x2 x3 x4 x5 z0 z1 z2 z3 z4 z5
  obtain ⟨S, hS⟩ : ∃ S, S = Dt.sameD x d := ⟨_, rfl⟩
  rw [← hS] at hs ⊢
  have HB := Lib.hid hb1
  obtain ⟨a1, n1, c1, a2, n2, c2, a3, n3, c3, rfl, rfl, rfl⟩ := hR.forms
  obtain ⟨d1, p1, q1, d2, p2, q2, d3, p3, q3, rfl, rfl, rfl⟩ := hR'.forms
  clear hR hR' hW hW' hS hB hb1 hz1
  go_enter Try.func26, Try.ntmps26
  go_wp2_with (go_at_call 27; refine hs.mono ?_; clear hs; rintro e w2 ⟨rfl, hb2⟩; have HB2 := Lib.hid hb2; clear hb2)
  go_ret
  exact ⟨rfl, HB.out.trans (HB2.out.mono HB.out.size)⟩
set_option maxRecDepth 100000 in
set_option maxHeartbeats 2000000 in
theorem cIndex_any {F G : Nat → Prop} (va um ul ut : Value) (l : List Dt.D) (d : Dt.D) (B : Nat) (w : World) (ha : Dt.Row F w va l) (hl : l.length ≤ 140737488355328) (hW : Dt.Wfs l) (hW' : Dt.Wf d) (hR' : Dt.Rep G w d um ul ut) (hB : Dt.Six w B 0 d um ul ut) :
    Calls Try.prog 54 #[va, .func (.func 26) #[] #[.pointer (some ⟨B, 0, none⟩)]] w fun e w' => (∃ i : Int, e = .returned (.int .i64 i) ∧ decide (0 ≤ i) = l.any fun y => Dt.sameD y d) ∧ Below w.heap.size w w' := by
  obtain ⟨a, c, rfl, _, hc⟩ := ha
  obtain ⟨R, hR⟩ : ∃ R, R = l.any fun y => Dt.sameD y d := ⟨_, rfl⟩
  rw [← hR]
  have H0 : Hid (R = (l.drop 0).any fun y => Dt.sameD y d) := by show _ = _; rw [List.drop_zero]; exact hR
  have HC := Lib.hid hc
  have HW := Lib.hid hW
  have HW' := Lib.hid hW'
  have HR' := Lib.hid hR'
  have HSB := Lib.hid hB
  clear hc hR hW hW' hR' hB
  go_enter Try.func54, Try.ntmps54
  go_wp2
  go_loopw [8] (fun v wr => ∃ k : Nat, v = .int .i64 k ∧ k ≤ l.length ∧ Hid (R = (l.drop k).any fun y => Dt.sameD y d) ∧ Hid (Below w.heap.size w wr)) (fun v _ => l.length - (intOf v).toNat)
  case atStart => exact ⟨0, rfl, by omega, H0, Below.refl _ _⟩
  case round =>
    obtain ⟨k, rfl, hk, HR, HB⟩ := hrel
    by_cases hlt : k < l.length
    · have hlti : (k : Int) < (l.length : Int) := by omega
      obtain ⟨b, o, hao, hFb, hbl, hreps⟩ := HC.out (by intro h0; rw [h0] at hlt; simp at hlt)
      subst hao
      have hkp : Keep (fun _ => False) w wr := (Keep.refl _ w).below HB.out
      obtain ⟨vm, vl, vt, hs, hrp⟩ := (Dt.Reps.keep hkp (fun k hk _ h => h) _ hFb hbl hreps).at k hlt
      obtain ⟨a1, n1, c1, a2, n2, c2, a3, n3, c3, rfl, rfl, rfl⟩ := hrp.forms
      have hr := HR.out
      rw [List.drop_eq_getElem_cons hlt, List.any_cons] at hr
      have hwf := HW.out.at k hlt
      obtain ⟨y, hyy⟩ : ∃ y, l[k] = y := ⟨_, rfl⟩
      rw [hyy] at hs hrp hr hwf
      obtain ⟨y0, y1, y2, y3, y4, y5⟩ := hs
      have hcall := check1_any y d _ _ _ um ul ut B wr hwf HW'.out hrp (HR'.out.below HB.out) (HSB.out.keep hkp (block_lt_of_cell HSB.out.1) id)
      obtain ⟨V, hV⟩ : ∃ V, Dt.sameD y d = V := ⟨_, rfl⟩
      rw [hV] at hcall hr
      have HCALL := Lib.hid hcall
      have HRR := Lib.hid hr
      clear hcall hr hwf hrp hreps hkp hyy hFb hbl hV
      cases V with
      | true =>
        have HN : Hid (R = true) := by show _ = _; rw [HRR.out]; rfl
        clear HRR
        go_wp2_with (go_at_call 26; refine HCALL.out.mono ?_; rintro e w9 ⟨rfl, hb9⟩; have HB9 : Hid (Below w.heap.size w w9) := HB.out.trans (hb9.mono HB.out.size); clear hb9 HCALL y0 y1 y2 y3 y4 y5)
        go_ret
        exact ⟨⟨k, rfl, by rw [HN.out]; simp⟩, HB9.out⟩
      | false =>
        have HN : Hid (R = (l.drop (k + 1)).any fun y => Dt.sameD y d) := by show _ = _; rw [HRR.out]; rfl
        clear HRR
        go_wp2_with (go_at_call 26; refine HCALL.out.mono ?_; rintro e w9 ⟨rfl, hb9⟩; have HB9 : Hid (Below w.heap.size w w9) := HB.out.trans (hb9.mono HB.out.size); clear hb9 HCALL y0 y1 y2 y3 y4 y5)
        go_roundw
        case rel => exact ⟨k + 1, by simp, by omega, HN, HB9⟩
        case measure => simp [intOf]; omega
    · have hge : (l.length : Int) ≤ (k : Int) := by omega
      have HN : Hid (R = false) := by show _ = _; rw [HR.out, List.drop_eq_nil_of_le (by omega)]; rfl
      go_wp2
      go_ret
      exact ⟨⟨-1, rfl, by rw [HN.out]; rfl⟩, HB.out⟩
set_option maxRecDepth 100000 in
set_option maxHeartbeats 2000000 in
theorem cContains_any {F G : Nat → Prop} (va um ul ut : Value) (l : List Dt.D) (d : Dt.D) (B : Nat) (w : World) (ha : Dt.Row F w va l) (hl : l.length ≤ 140737488355328) (hW : Dt.Wfs l) (hW' : Dt.Wf d) (hR' : Dt.Rep G w d um ul ut) (hB : Dt.Six w B 0 d um ul ut) :
    Calls Try.prog 25 #[va, .func (.func 26) #[] #[.pointer (some ⟨B, 0, none⟩)]] w fun e w' => e = .returned (.bool (l.any fun y => Dt.sameD y d)) ∧ Below w.heap.size w w' := by
  have hi := cIndex_any va um ul ut l d B w ha hl hW hW' hR' hB
  obtain ⟨R, hR⟩ : ∃ R, R = l.any fun y => Dt.sameD y d := ⟨_, rfl⟩
  rw [← hR] at hi ⊢
  obtain ⟨a, c, rfl, _, _⟩ := ha
  clear hR hW hW' hR' hB
  go_enter Try.func25, Try.ntmps25
  go_wp2_with fail
  refine hi.mono ?_
  rintro e w1 ⟨⟨i, rfl, hx⟩, hb⟩
  have HB := Lib.hid hb
  clear hb hi
  go_wp2
  go_ret
  exact ⟨by rw [← hx]; rfl, HB.out⟩
end Go.Proofs.Ytlckjphnbfahgaa
