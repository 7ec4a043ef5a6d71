/-
  code.good: whether a code may be.
-/
import Derived.Test.YtlckjphnbfahgaaGreatDoorCdFlowW
import Derived.Test.YtlckjphnbfahgaaGreatDoorCdAt
namespace Go.Proofs.YtlckjphnbfahgaaGreatDoor
open Go.RowKit
attribute [local go_sem] Oper.semAt_some
namespace Cd
theorem min_if (a b : Int) : (if b < a then b else a) = min a b := by
  rw [Int.min_def]
  by_cases h : b < a
  · rw [if_pos h, if_neg (by omega)]
  · rw [if_neg h, if_pos (by omega)]
/-- the first part of good -/
def head (c : Code) : Bool := within c.params 32 && within c.rest (min c.params 1) && within c.caps 64 && decide (c.ins.length ≠ 0) && decide (c.ins.length ≤ 4096)
theorem good_of (p : Prog) (c : Code) : good p c = (head c && allIns p c && (match flowW c.ins 0 (start c.ins.length) 0 with
    | some (_, most) => decide (most = c.max) && decide (most ≤ 256)
    | none => false)) := rfl
theorem allIns_no {p : Prog} {c : Code} {j : Nat} (hj : j < c.ins.length) (h : okIns p c j c.ins[j] = false) : allIns p c = false := by
  unfold allIns
  rw [List.all_eq_false]
  refine ⟨j, List.mem_range.2 hj, ?_⟩
  rw [List.getD_eq_getElem?_getD, List.getElem?_eq_getElem hj]
  show ¬ okIns p c j c.ins[j] = true
  rw [h]; decide
theorem allIns_yes {p : Prog} {c : Code} (h : ∀ j, (hj : j < c.ins.length) → okIns p c j c.ins[j] = true) : allIns p c = true := by
  unfold allIns
  rw [List.all_eq_true]
  intro j hj
  have hj := List.mem_range.1 hj
  rw [List.getD_eq_getElem?_getD, List.getElem?_eq_getElem hj]
  exact h j hj
theorem allIns_pos {p : Prog} {c : Code} (h : ∀ j, (hj : j < c.ins.length) → okIns p c j c.ins[j] = true) : ∀ x ∈ c.ins, (op x.o).a = 5 → 0 ≤ x.a := fun x hx e => by
  obtain ⟨i, hi, rfl⟩ := List.getElem_of_mem hx
  have := (okIns_ok (h i hi)).lo
  rw [e] at this
  have h2 : (i : Int) + 1 ≤ c.ins[i].a := this
  omega
end Cd
set_option maxRecDepth 100000 in
set_option maxHeartbeats 8000000 in
theorem good_any {F : Nat → Prop} (p : Cd.Prog) (c : Cd.Code) (vc vk vn vi : Value) (w : World) (hp : Cd.PRep F w p vc vk vn) (hw : Cd.PWf p) (hi : Cd.InsRow F w vi c.ins) (hl : c.ins.length ≤ 140737488355328) :
    Calls Tryz.prog 35 #[.agg #[vc, vk, vn], .agg #[.int .i64 c.params, .int .i64 c.rest, .int .i64 c.caps, .int .i64 c.max, vi]] w fun e w' => e = .returned (.bool (Cd.good p c)) ∧ Below w.heap.size w w' := by
  obtain ⟨a1, c1, a2, c2, a3, c3, rfl, rfl, rfl⟩ := hp.forms
  obtain ⟨ai, ci, rfl⟩ := hi.form
  obtain ⟨G, hG⟩ : ∃ G, G = Cd.good p c := ⟨_, rfl⟩
  rw [← hG]
  rw [Cd.good_of] at hG
  obtain ⟨w0, hw0⟩ : ∃ w0, w.alloc (.cells #[.slice a1 p.codes.length c1, .slice a2 p.consts.length c2, .slice a3 p.names.length c3] 26) = w0 := ⟨_, rfl⟩
  obtain ⟨hb0, hs0, hbp⟩ := Cd.boxP hw0
  obtain ⟨w1, hw1⟩ : ∃ w1, w0.alloc (.cells #[.int .i64 c.params, .int .i64 c.rest, .int .i64 c.caps, .int .i64 c.max, .slice ai c.ins.length ci] 47) = w1 := ⟨_, rfl⟩
  obtain ⟨hb1, hs1, hbc⟩ := Cd.boxC hw1
  rw [hs0] at hbc
  obtain ⟨q0, q1, q2, q3, q4⟩ := hbc w1 (Below.refl _ _)
  have hq1 := within_any c.params 32 w1
  have hq2 := within_any c.rest (min c.params 1) w1
  have hq3 := within_any c.caps 64 w1
  have hmn := Cd.min_if c.params 1
  obtain ⟨M, hM⟩ : ∃ M, min c.params 1 = M := ⟨_, rfl⟩
  unfold Cd.head at hG
  rw [show Cd.withinB = Cd.within from rfl] at hq1 hq2 hq3
  rw [hM] at hmn hq2 hG
  obtain ⟨E1, hE1⟩ : ∃ E, E = Cd.within c.params 32 := ⟨_, rfl⟩
  obtain ⟨E2, hE2⟩ : ∃ E, E = Cd.within c.rest M := ⟨_, rfl⟩
  obtain ⟨E3, hE3⟩ : ∃ E, E = Cd.within c.caps 64 := ⟨_, rfl⟩
  rw [← hE1] at hq1 hG
  rw [← hE2] at hq2 hG
  rw [← hE3] at hq3 hG
  have HB1 : Hid (Below w.heap.size w w1) := hb0.trans (hb1.mono hb0.size)
  have HB01 := Lib.hid hb1
  have HP := Lib.hid hp
  have HW := Lib.hid hw
  have HI := Lib.hid hi
  have HBP : Hid (∀ W, Below w1.heap.size w1 W → W.cell? ⟨w.heap.size, 0, none⟩ = some (.slice a1 p.codes.length c1) ∧ W.cell? ⟨w.heap.size, 1, none⟩ = some (.slice a2 p.consts.length c2) ∧ W.cell? ⟨w.heap.size, 2, none⟩ = some (.slice a3 p.names.length c3)) := fun W hW => hbp W (hb1.trans (hW.mono hb1.size))
  have HBC := Lib.hid hbc
  have HG := Lib.hid hG
  clear hp hw hi hb0 hb1 hs1 hbp hbc hE1 hE2 hE3 hG
  cases E1 with
  | false =>
    have HE : Hid (G = false) := by show _ = _; rw [HG.out]; simp
    clear HG
    go_enter Tryz.func35, Tryz.ntmps35
    go_wp2_with (first | (go_at_call 52; refine hq1.mono ?_; clear hq1; rintro e w9 ⟨rfl, rfl⟩) | (go_at_call 52; refine hq2.mono ?_; clear hq2; rintro e w9 ⟨rfl, rfl⟩) | (go_at_call 52; refine hq3.mono ?_; clear hq3; rintro e w9 ⟨rfl, rfl⟩))
    go_ret
    exact ⟨by rw [HE.out]; rfl, HB1.out⟩
  | true =>
    cases E2 with
    | false =>
      have HE : Hid (G = false) := by show _ = _; rw [HG.out]; simp
      clear HG
      go_enter Tryz.func35, Tryz.ntmps35
      go_wp2_with (first | (go_at_call 52; refine hq1.mono ?_; clear hq1; rintro e w9 ⟨rfl, rfl⟩) | (go_at_call 52; refine hq2.mono ?_; clear hq2; rintro e w9 ⟨rfl, rfl⟩) | (go_at_call 52; refine hq3.mono ?_; clear hq3; rintro e w9 ⟨rfl, rfl⟩))
      go_ret
      exact ⟨by rw [HE.out]; rfl, HB1.out⟩
    | true =>
      cases E3 with
      | false =>
        have HE : Hid (G = false) := by show _ = _; rw [HG.out]; simp
        clear HG
        go_enter Tryz.func35, Tryz.ntmps35
        go_wp2_with (first | (go_at_call 52; refine hq1.mono ?_; clear hq1; rintro e w9 ⟨rfl, rfl⟩) | (go_at_call 52; refine hq2.mono ?_; clear hq2; rintro e w9 ⟨rfl, rfl⟩) | (go_at_call 52; refine hq3.mono ?_; clear hq3; rintro e w9 ⟨rfl, rfl⟩))
        go_ret
        exact ⟨by rw [HE.out]; rfl, HB1.out⟩
      | true =>
        by_cases l0 : c.ins.length = 0
        · have l0' : ((c.ins.length : Int) == 0) = true := by rw [l0]; rfl
          have HE : Hid (G = false) := by show _ = _; rw [HG.out, decide_eq_false (fun h => h l0)]; simp
          clear HG l0
          go_enter Tryz.func35, Tryz.ntmps35
          go_wp2_with (first | (go_at_call 52; refine hq1.mono ?_; clear hq1; rintro e w9 ⟨rfl, rfl⟩) | (go_at_call 52; refine hq2.mono ?_; clear hq2; rintro e w9 ⟨rfl, rfl⟩) | (go_at_call 52; refine hq3.mono ?_; clear hq3; rintro e w9 ⟨rfl, rfl⟩))
          go_ret
          exact ⟨by rw [HE.out]; rfl, HB1.out⟩
        have l0' : ((c.ins.length : Int) == 0) = false := beq_eq_false_iff_ne.2 (by omega)
        by_cases l1 : 4096 < c.ins.length
        · have l1' : decide ((4096 : Int) < (c.ins.length : Int)) = true := decide_eq_true (by omega)
          have HE : Hid (G = false) := by show _ = _; rw [HG.out, decide_eq_false (p := c.ins.length ≤ 4096) (by omega)]; simp
          clear HG l0 l1
          go_enter Tryz.func35, Tryz.ntmps35
          go_wp2_with (first | (go_at_call 52; refine hq1.mono ?_; clear hq1; rintro e w9 ⟨rfl, rfl⟩) | (go_at_call 52; refine hq2.mono ?_; clear hq2; rintro e w9 ⟨rfl, rfl⟩) | (go_at_call 52; refine hq3.mono ?_; clear hq3; rintro e w9 ⟨rfl, rfl⟩))
          go_ret
          exact ⟨by rw [HE.out]; rfl, HB1.out⟩
        have l1' : decide ((4096 : Int) < (c.ins.length : Int)) = false := decide_eq_false (by omega)
        have hln : 1 ≤ c.ins.length ∧ c.ins.length ≤ 4096 := ⟨by omega, by omega⟩
        have HG2 : Hid (G = (Cd.allIns p c && (match Cd.flowW c.ins 0 (Cd.start c.ins.length) 0 with
            | some (_, most) => decide (most = c.max) && decide (most ≤ 256)
            | none => false))) := by
          show _ = _
          rw [HG.out, decide_eq_true l0, decide_eq_true hln.2]
          simp
        clear HG l0 l1
        go_enter Tryz.func35, Tryz.ntmps35
        go_wp2_with (first | (go_at_call 52; refine hq1.mono ?_; clear hq1; rintro e w9 ⟨rfl, rfl⟩) | (go_at_call 52; refine hq2.mono ?_; clear hq2; rintro e w9 ⟨rfl, rfl⟩) | (go_at_call 52; refine hq3.mono ?_; clear hq3; rintro e w9 ⟨rfl, rfl⟩))
        clear l0' l1' q0 q1 q2 q3 q4
        clear hM hmn hs0 hw0 hw1
        go_loopw [43] (fun v wr => ∃ k : Nat, v = .int .i64 k ∧ k ≤ c.ins.length ∧ Hid (∀ j, (hj : j < c.ins.length) → j < k → Cd.okIns p c j c.ins[j] = true) ∧ Hid (Below w1.heap.size w1 wr)) (fun v _ => c.ins.length - (intOf v).toNat)
        case atStart => exact ⟨0, rfl, by omega, fun j _ hj => by omega, Below.refl _ _⟩
        case round =>
          obtain ⟨k, rfl, hk, HK, HBR⟩ := hrel
          obtain ⟨p0, p1, p2⟩ := HBP.out wr HBR.out
          obtain ⟨q0, q1, q2, q3, q4⟩ := HBC.out wr HBR.out
          have HB : Hid (Below w.heap.size w wr) := HB1.out.trans (HBR.out.mono HB1.out.size)
          by_cases hlt : k < c.ins.length
          · have hlti : (k : Int) < (c.ins.length : Int) := by omega
            have hop := operands_any p c _ _ _ _ k wr (HP.out.below HB.out) HW.out (HI.out.below HB.out) hl hlt
            obtain ⟨E, hE⟩ : ∃ E, E = Cd.okIns p c k c.ins[k] := ⟨_, rfl⟩
            rw [← hE] at hop
            have HE0 := Lib.hid hE
            clear hE
            cases E with
            | false =>
              have HE : Hid (G = false) := by show _ = _; rw [HG2.out, Cd.allIns_no hlt HE0.out.symm]; rfl
              clear HE0
              go_wp2_with (go_at_call 53; refine hop.mono ?_; clear hop; rintro e w9 ⟨rfl, hb9⟩; have HB9 := Lib.hid hb9; clear hb9)
              go_ret
              exact ⟨by rw [HE.out]; rfl, HB.out.trans (HB9.out.mono HB.out.size)⟩
            | true =>
              go_wp2_with (go_at_call 53; refine hop.mono ?_; clear hop; rintro e w9 ⟨rfl, hb9⟩; have HB9 := Lib.hid hb9; clear hb9)
              go_roundw
              case rel =>
                refine ⟨k + 1, by simp, by omega, fun j hj hjk => ?_, HBR.out.trans (HB9.out.mono HBR.out.size)⟩
                by_cases e : j = k
                · subst e
                  exact HE0.out.symm
                · exact HK.out j hj (by omega)
              case measure => simp [intOf]; omega
          · have hge : (c.ins.length : Int) ≤ (k : Int) := by omega
            have hall : ∀ j, (hj : j < c.ins.length) → Cd.okIns p c j c.ins[j] = true := fun j hj => HK.out j hj (by omega)
            have hg3 := HG2.out
            rw [Cd.allIns_yes hall, Bool.true_and] at hg3
            have hfl := flow_any _ c.ins wr (HI.out.below HB.out) hln.1 hln.2 (Cd.allIns_pos hall)
            clear hall HK HG2 hlt
            cases hf : Cd.flowW c.ins 0 (Cd.start c.ins.length) 0 with
            | none =>
              rw [hf] at hfl hg3
              unfold Cd.FlowPost at hfl
              have HE : Hid (G = false) := hg3
              clear hg3 hf
              go_wp2_with (go_at_call 28; refine hfl.mono ?_; clear hfl; rintro e w9 ⟨rfl, hb9⟩; have HB9 := Lib.hid hb9; clear hb9)
              go_ret
              exact ⟨by rw [HE.out]; rfl, HB.out.trans (HB9.out.mono HB.out.size)⟩
            | some r =>
              obtain ⟨fin, most⟩ := r
              rw [hf] at hfl hg3
              unfold Cd.FlowPost at hfl
              simp only at hfl hg3
              have HC : Hid (∀ W, Below wr.heap.size wr W → W.cell? ⟨w.heap.size + 1, 3, none⟩ = some (.int .i64 c.max)) := fun W hW => (HBC.out W (HBR.out.trans (hW.mono HBR.out.size))).2.2.2.1
              have HG4 := Lib.hid hg3
              clear hg3 hf
              by_cases h1 : most = c.max
              · have h1' : (most == c.max) = true := beq_iff_eq.2 h1
                by_cases h2 : most ≤ 256
                · have h2' : decide (most ≤ 256) = true := decide_eq_true h2
                  have HE : Hid (G = true) := by show _ = _; rw [HG4.out, decide_eq_true h1, decide_eq_true h2]; rfl
                  clear HG4 h1 h2
                  go_wp2_with (go_at_call 28; refine hfl.mono ?_; clear hfl; rintro e w9 ⟨g, rfl, -, -, hb9⟩; have c3 := HC.out w9 hb9; have HB9 := Lib.hid hb9; clear hb9)
                  go_ret
                  exact ⟨by rw [HE.out]; rfl, HB.out.trans (HB9.out.mono HB.out.size)⟩
                · have h2' : decide (most ≤ 256) = false := decide_eq_false h2
                  have HE : Hid (G = false) := by show _ = _; rw [HG4.out, decide_eq_false h2, Bool.and_false]
                  clear HG4 h1 h2
                  go_wp2_with (go_at_call 28; refine hfl.mono ?_; clear hfl; rintro e w9 ⟨g, rfl, -, -, hb9⟩; have c3 := HC.out w9 hb9; have HB9 := Lib.hid hb9; clear hb9)
                  go_ret
                  exact ⟨by rw [HE.out]; rfl, HB.out.trans (HB9.out.mono HB.out.size)⟩
              · have h1' : (most == c.max) = false := beq_eq_false_iff_ne.2 h1
                have HE : Hid (G = false) := by show _ = _; rw [HG4.out, decide_eq_false h1, Bool.false_and]
                clear HG4 h1
                go_wp2_with (go_at_call 28; refine hfl.mono ?_; clear hfl; rintro e w9 ⟨g, rfl, -, -, hb9⟩; have c3 := HC.out w9 hb9; have HB9 := Lib.hid hb9; clear hb9)
                go_ret
                exact ⟨by rw [HE.out]; rfl, HB.out.trans (HB9.out.mono HB.out.size)⟩
end Go.Proofs.YtlckjphnbfahgaaGreatDoor
