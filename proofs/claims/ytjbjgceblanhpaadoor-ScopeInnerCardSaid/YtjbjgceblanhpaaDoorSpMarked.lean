/-
  shuttlelaw05.marked.
-/
import Derived.Test.YtjbjgceblanhpaaDoorSpMade
namespace Go.Proofs.YtjbjgceblanhpaaDoor
open Go.RowKit
attribute [local go_sem] Oper.semAt_some
/-- were a name's marks made? -/
def Sp.allm (t : Sp.Tbl) (x : Dt.D) : Bool := x.m.all fun y => decide (y ≤ (t.m.length : Int))
set_option maxRecDepth 100000 in
set_option maxHeartbeats 4000000 in
theorem spMarked_any {F : Nat → Prop} {base T mb : Nat} {vl : Value} {xs : List Sp.B} {t : Sp.Tbl} (x : Dt.D) (vm vL vt : Value) (w : World) (h : Sp.Tab w base T vl mb xs t) (hR : Dt.Rep F w x vm vL vt) (hl : x.m.length ≤ 140737488355328) :
    Calls Tryd.prog 13 #[.pointer (some ⟨T, 0, none⟩), .agg #[.int .i64 x.k, .int .i64 x.n, .string x.s, vm, vL, vt]] w fun e w' => e = .returned (.bool (Sp.allm t x)) ∧ Below w.heap.size w w' := by
  obtain ⟨⟨a1, q1, rfl, hc, hcell⟩, ⟨a2, q2, rfl, -⟩, ⟨a3, q3, rfl, -⟩⟩ := (Dt.rep_iff _ _ _ _ _ _).1 hR
  obtain ⟨w1, hw1⟩ : ∃ w1, w.alloc (.cells #[.int .i64 x.k, .int .i64 x.n, .string x.s, .slice a1 x.m.length q1, .slice a2 x.l.length q2, .slice a3 x.t.length q3] 26) = w1 := ⟨_, rfl⟩
  have hb1 := (Sp.below_new (Below.refl _ w) hw1 (Nat.le_refl _)).1
  have hbx := Dt.six_new w x.k x.n x.s (.slice a1 x.m.length q1) (.slice a2 x.l.length q2) (.slice a3 x.t.length q3) 26
  rw [hw1] at hbx
  have c3 := hbx 3 (by omega)
  simp only [List.getElem?_toArray, List.getElem?_cons_zero, List.getElem?_cons_succ] at c3
  have hsz := spSizes_any w1 (h.below hb1)
  obtain ⟨B, hB⟩ : ∃ B, B = Sp.allm t x := ⟨_, rfl⟩
  rw [← hB]
  have HB := Lib.hid hB
  have HC := Lib.hid hcell
  have HB1 := Lib.hid hb1
  have HC3 := Lib.hid c3
  clear h hR hcell hbx hb1 hB
  go_enter Tryd.func13, Tryd.ntmps13
  go_wp2_with (go_at_call 20; refine hsz.mono ?_; clear hsz; rintro e w2 ⟨rfl, hb2⟩; have c4 := (hb2.cell (p := ⟨w.heap.size, 3, none⟩) (block_lt_of_cell HC3.out)).trans HC3.out; have HB2 := Lib.hid (HB1.out.trans (hb2.mono HB1.out.size)); clear hb2)
  go_loopw [17] (fun v wr => ∃ j : Nat, v = .int .i64 j ∧ j ≤ x.m.length ∧ Hid (∀ y ∈ x.m.take j, y ≤ (t.m.length : Int)) ∧ wr = w2) (fun v _ => x.m.length - (intOf v).toNat)
  case atStart => exact ⟨0, rfl, Nat.zero_le _, fun y hy => by simp at hy, rfl⟩
  case round =>
    obtain ⟨j, rfl, hj, HJ, rfl⟩ := hrel
    by_cases hlt : j < x.m.length
    · have hlti : (j : Int) < (x.m.length : Int) := by omega
      have hj0 : (0 : Int) ≤ (j : Int) := by omega
      obtain ⟨b, o, rfl, -, hbl, hcc⟩ := HC.out (by intro e; rw [e] at hlt; simp at hlt)
      have q0 := (HB2.out.cell (p := ⟨b, o + j, none⟩) hbl).trans (hcc j hlt)
      obtain ⟨y, hyy⟩ : ∃ y, y = x.m[j] := ⟨_, rfl⟩
      rw [← hyy] at q0
      have HYY := Lib.hid hyy
      have hj1 : (j : Int) < 140737488355328 := by omega
      clear hcc hyy
      by_cases hin : y ≤ (t.m.length : Int)
      · have hin' : decide ((t.m.length : Int) < y) = false := decide_eq_false (by omega)
        have HJ2 : Hid (∀ y ∈ x.m.take (j + 1), y ≤ (t.m.length : Int)) := by
          intro z hz
          rw [List.take_succ_eq_append_getElem hlt] at hz
          rcases List.mem_append.1 hz with hz | hz
          · exact HJ.out z hz
          · rw [List.mem_singleton.1 hz, ← HYY.out]; exact hin
        clear hin HJ
        go_wp2
        go_roundw
        case rel => exact ⟨j + 1, by simp, by omega, HJ2, by simp⟩
        case measure => simp [intOf]; omega
      · have hin' : decide ((t.m.length : Int) < y) = true := decide_eq_true (by omega)
        have HV : Hid (B = false) := by
          show _ = _
          rw [HB.out]
          unfold Sp.allm
          rw [Bool.eq_false_iff]
          intro ha
          have h9 := List.all_eq_true.1 ha x.m[j] (List.getElem_mem _)
          rw [← HYY.out] at h9
          exact hin (of_decide_eq_true h9)
        clear hin HJ
        go_wp2
        go_ret
        exact ⟨by rw [HV.out]; rfl, HB2.out⟩
    · obtain rfl : j = x.m.length := by omega
      have hge : (x.m.length : Int) ≤ (x.m.length : Int) := by omega
      have HV : Hid (B = true) := by
        show _ = _
        rw [HB.out]
        unfold Sp.allm
        rw [List.all_eq_true]
        intro y hy
        exact decide_eq_true (HJ.out y (by rw [List.take_length]; exact hy))
      go_wp2
      go_ret
      exact ⟨by rw [HV.out]; rfl, HB2.out⟩
end Go.Proofs.YtjbjgceblanhpaaDoor
