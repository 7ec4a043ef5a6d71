/-
  shuttleref09's ins, needs, depths and codes, in one text
-/
import Derived.Test.YtlckjphnbfahgaaGreatDoorCdAt
import Derived.Deep.QuietTactic
import Derived.BigQuiet
import Derived.Test.YtlckjphnbfahgaaGreatDoorCdNeeds
import Derived.Test.YtlckjphnbfahgaaGreatDoorCdFlowW
import Derived.Test.YtlckjphnbfahgaaGreatDoorCdCloneW
import Derived.Test.YtlckjphnbfahgaaGreatDoorCdGood
namespace Go.Proofs.YtlckjphnbfahgaaGreatDoor
open Go.RowKit
attribute [local go_sem] Oper.semAt_some
set_option maxRecDepth 100000 in
set_option maxHeartbeats 8000000 in
theorem rIns_1 {F : Nat → Prop} (p : Cd.Prog) (c : Cd.Code) (a1 a2 a3 : Option Addr) (c1 c2 c3 bi oi ci : Nat) (j : Nat) (xa xb : Int) (w : World) (hp : Cd.PRep F w p (.slice a1 p.codes.length c1) (.slice a2 p.consts.length c2) (.slice a3 p.names.length c3)) (hl : c.ins.length ≤ 140737488355328) (hj : j < c.ins.length) (hbi : bi < w.heap.size)
    (x0 : w.cell? ⟨bi, oi + j * 3, none⟩ = some (.int .i64 1)) (x1 : w.cell? ⟨bi, oi + j * 3 + 1, none⟩ = some (.int .i64 xa)) (x2 : w.cell? ⟨bi, oi + j * 3 + 2, none⟩ = some (.int .i64 xb)) :
    Calls Tryz.prog 59 #[.agg #[.slice a1 p.codes.length c1, .slice a2 p.consts.length c2, .slice a3 p.names.length c3], .agg #[.int .i64 c.params, .int .i64 c.rest, .int .i64 c.caps, .int .i64 c.max, .slice (some ⟨bi, oi, none⟩) c.ins.length ci], .int .i64 (j : Int)] w fun e w' => e = .returned (.bool (Cd.okIns p c j ⟨1, xa, xb⟩)) ∧ Below w.heap.size w w' := by
  obtain ⟨E, hE⟩ : ∃ E, E = Cd.okIns p c j ⟨1, xa, xb⟩ := ⟨_, rfl⟩
  rw [← hE]
  obtain ⟨w1, hw1⟩ : ∃ w1, ((w.alloc (.cells #[.slice a1 p.codes.length c1, .slice a2 p.consts.length c2, .slice a3 p.names.length c3] 26)).alloc (.cells #[.int .i64 c.params, .int .i64 c.rest, .int .i64 c.caps, .int .i64 c.max, .slice (some ⟨bi, oi, none⟩) c.ins.length ci] 47)).alloc (.cells #[.int .i64 1, .int .i64 xa, .int .i64 xb] 55) = w1 := ⟨_, rfl⟩
  obtain ⟨hb1, hs1, hP, hC, hX⟩ := Cd.boxes3 w _ _ _ _ _ _ hw1
  have p0 := hP 0 _ rfl
  have p1 := hP 1 _ rfl
  have p2 := hP 2 _ rfl
  have q0 := hC 0 _ rfl
  have q2 := hC 2 _ rfl
  have q4 := hC 4 _ rfl
  have z0 := hX 0 _ rfl
  have z1 := hX 1 _ rfl
  have z2 := hX 2 _ rfl
  have HB1 := Lib.hid hb1
  have HP := Lib.hid hp
  have hji : (j : Int) < (c.ins.length : Int) := by omega
  have hj0 : (0 : Int) ≤ (j : Int) := by omega
  have hjb : (j : Int) ≤ 140737488355328 := by omega
  clear hP hC hX hb1 hp hs1
  have hE2 : E = (decide (0 ≤ xa) && decide (xa < (p.consts.length : Int)) && decide (xb = 0)) := hE
  clear hE
  by_cases h1 : xa < 0
  · have f1 : decide (xa < 0) = true := decide_eq_true h1
    have HE : Hid (E = false) := by show _ = _; rw [hE2, decide_eq_false (by omega : ¬ 0 ≤ xa)]; simp
    clear hE2 h1
    go_enter Tryz.func59, Tryz.ntmps59
    go_wp2
    go_ret
    exact ⟨by rw [HE.out]; rfl, HB1.out⟩
  have f1 : decide (xa < 0) = false := decide_eq_false h1
  by_cases h2 : (p.consts.length : Int) ≤ xa
  · have f2 : decide ((p.consts.length : Int) ≤ xa) = true := decide_eq_true h2
    have HE : Hid (E = false) := by show _ = _; rw [hE2, decide_eq_false (by omega : ¬ xa < (p.consts.length : Int))]; simp
    clear hE2 h1 h2
    go_enter Tryz.func59, Tryz.ntmps59
    go_wp2
    go_ret
    exact ⟨by rw [HE.out]; rfl, HB1.out⟩
  have f2 : decide ((p.consts.length : Int) ≤ xa) = false := decide_eq_false h2
  by_cases h3 : xb = 0
  · have f3 : (xb == 0) = true := beq_iff_eq.2 h3
    have HE : Hid (E = true) := by show _ = _; rw [hE2, decide_eq_true (by omega : 0 ≤ xa), decide_eq_true (by omega : xa < (p.consts.length : Int)), decide_eq_true h3]; rfl
    clear hE2 h1 h2 h3
    go_enter Tryz.func59, Tryz.ntmps59
    go_wp2
    go_ret
    exact ⟨by rw [HE.out]; rfl, HB1.out⟩
  · have f3 : (xb == 0) = false := beq_eq_false_iff_ne.2 h3
    have HE : Hid (E = false) := by show _ = _; rw [hE2, decide_eq_false h3]; simp
    clear hE2 h1 h2 h3
    go_enter Tryz.func59, Tryz.ntmps59
    go_wp2
    go_ret
    exact ⟨by rw [HE.out]; rfl, HB1.out⟩
set_option maxRecDepth 100000 in
set_option maxHeartbeats 8000000 in
theorem rIns_2 {F : Nat → Prop} (p : Cd.Prog) (c : Cd.Code) (a1 a2 a3 : Option Addr) (c1 c2 c3 bi oi ci : Nat) (j : Nat) (xa xb : Int) (w : World) (hp : Cd.PRep F w p (.slice a1 p.codes.length c1) (.slice a2 p.consts.length c2) (.slice a3 p.names.length c3)) (hl : c.ins.length ≤ 140737488355328) (hj : j < c.ins.length) (hbi : bi < w.heap.size)
    (x0 : w.cell? ⟨bi, oi + j * 3, none⟩ = some (.int .i64 2)) (x1 : w.cell? ⟨bi, oi + j * 3 + 1, none⟩ = some (.int .i64 xa)) (x2 : w.cell? ⟨bi, oi + j * 3 + 2, none⟩ = some (.int .i64 xb)) :
    Calls Tryz.prog 59 #[.agg #[.slice a1 p.codes.length c1, .slice a2 p.consts.length c2, .slice a3 p.names.length c3], .agg #[.int .i64 c.params, .int .i64 c.rest, .int .i64 c.caps, .int .i64 c.max, .slice (some ⟨bi, oi, none⟩) c.ins.length ci], .int .i64 (j : Int)] w fun e w' => e = .returned (.bool (Cd.okIns p c j ⟨2, xa, xb⟩)) ∧ Below w.heap.size w w' := by
  obtain ⟨E, hE⟩ : ∃ E, E = Cd.okIns p c j ⟨2, xa, xb⟩ := ⟨_, rfl⟩
  rw [← hE]
  obtain ⟨w1, hw1⟩ : ∃ w1, ((w.alloc (.cells #[.slice a1 p.codes.length c1, .slice a2 p.consts.length c2, .slice a3 p.names.length c3] 26)).alloc (.cells #[.int .i64 c.params, .int .i64 c.rest, .int .i64 c.caps, .int .i64 c.max, .slice (some ⟨bi, oi, none⟩) c.ins.length ci] 47)).alloc (.cells #[.int .i64 2, .int .i64 xa, .int .i64 xb] 55) = w1 := ⟨_, rfl⟩
  obtain ⟨hb1, hs1, hP, hC, hX⟩ := Cd.boxes3 w _ _ _ _ _ _ hw1
  have p0 := hP 0 _ rfl
  have p1 := hP 1 _ rfl
  have p2 := hP 2 _ rfl
  have q0 := hC 0 _ rfl
  have q2 := hC 2 _ rfl
  have q4 := hC 4 _ rfl
  have z0 := hX 0 _ rfl
  have z1 := hX 1 _ rfl
  have z2 := hX 2 _ rfl
  have HB1 := Lib.hid hb1
  have HP := Lib.hid hp
  have hji : (j : Int) < (c.ins.length : Int) := by omega
  have hj0 : (0 : Int) ≤ (j : Int) := by omega
  have hjb : (j : Int) ≤ 140737488355328 := by omega
  clear hP hC hX hb1 hp hs1
  have hE2 : E = (decide (0 ≤ xa) && decide (xa < c.params) && decide (xb = 0)) := hE
  clear hE
  by_cases h1 : xa < 0
  · have f1 : decide (xa < 0) = true := decide_eq_true h1
    have HE : Hid (E = false) := by show _ = _; rw [hE2, decide_eq_false (by omega : ¬ 0 ≤ xa)]; simp
    clear hE2 h1
    go_enter Tryz.func59, Tryz.ntmps59
    go_wp2
    go_ret
    exact ⟨by rw [HE.out]; rfl, HB1.out⟩
  have f1 : decide (xa < 0) = false := decide_eq_false h1
  by_cases h2 : c.params ≤ xa
  · have f2 : decide (c.params ≤ xa) = true := decide_eq_true h2
    have HE : Hid (E = false) := by show _ = _; rw [hE2, decide_eq_false (by omega : ¬ xa < c.params)]; simp
    clear hE2 h1 h2
    go_enter Tryz.func59, Tryz.ntmps59
    go_wp2
    go_ret
    exact ⟨by rw [HE.out]; rfl, HB1.out⟩
  have f2 : decide (c.params ≤ xa) = false := decide_eq_false h2
  by_cases h3 : xb = 0
  · have f3 : (xb == 0) = true := beq_iff_eq.2 h3
    have HE : Hid (E = true) := by show _ = _; rw [hE2, decide_eq_true (by omega : 0 ≤ xa), decide_eq_true (by omega : xa < c.params), decide_eq_true h3]; rfl
    clear hE2 h1 h2 h3
    go_enter Tryz.func59, Tryz.ntmps59
    go_wp2
    go_ret
    exact ⟨by rw [HE.out]; rfl, HB1.out⟩
  · have f3 : (xb == 0) = false := beq_eq_false_iff_ne.2 h3
    have HE : Hid (E = false) := by show _ = _; rw [hE2, decide_eq_false h3]; simp
    clear hE2 h1 h2 h3
    go_enter Tryz.func59, Tryz.ntmps59
    go_wp2
    go_ret
    exact ⟨by rw [HE.out]; rfl, HB1.out⟩
set_option maxRecDepth 100000 in
set_option maxHeartbeats 8000000 in
theorem rIns_3 {F : Nat → Prop} (p : Cd.Prog) (c : Cd.Code) (a1 a2 a3 : Option Addr) (c1 c2 c3 bi oi ci : Nat) (j : Nat) (xa xb : Int) (w : World) (hp : Cd.PRep F w p (.slice a1 p.codes.length c1) (.slice a2 p.consts.length c2) (.slice a3 p.names.length c3)) (hl : c.ins.length ≤ 140737488355328) (hj : j < c.ins.length) (hbi : bi < w.heap.size)
    (x0 : w.cell? ⟨bi, oi + j * 3, none⟩ = some (.int .i64 3)) (x1 : w.cell? ⟨bi, oi + j * 3 + 1, none⟩ = some (.int .i64 xa)) (x2 : w.cell? ⟨bi, oi + j * 3 + 2, none⟩ = some (.int .i64 xb)) :
    Calls Tryz.prog 59 #[.agg #[.slice a1 p.codes.length c1, .slice a2 p.consts.length c2, .slice a3 p.names.length c3], .agg #[.int .i64 c.params, .int .i64 c.rest, .int .i64 c.caps, .int .i64 c.max, .slice (some ⟨bi, oi, none⟩) c.ins.length ci], .int .i64 (j : Int)] w fun e w' => e = .returned (.bool (Cd.okIns p c j ⟨3, xa, xb⟩)) ∧ Below w.heap.size w w' := by
  obtain ⟨E, hE⟩ : ∃ E, E = Cd.okIns p c j ⟨3, xa, xb⟩ := ⟨_, rfl⟩
  rw [← hE]
  obtain ⟨w1, hw1⟩ : ∃ w1, ((w.alloc (.cells #[.slice a1 p.codes.length c1, .slice a2 p.consts.length c2, .slice a3 p.names.length c3] 26)).alloc (.cells #[.int .i64 c.params, .int .i64 c.rest, .int .i64 c.caps, .int .i64 c.max, .slice (some ⟨bi, oi, none⟩) c.ins.length ci] 47)).alloc (.cells #[.int .i64 3, .int .i64 xa, .int .i64 xb] 55) = w1 := ⟨_, rfl⟩
  obtain ⟨hb1, hs1, hP, hC, hX⟩ := Cd.boxes3 w _ _ _ _ _ _ hw1
  have p0 := hP 0 _ rfl
  have p1 := hP 1 _ rfl
  have p2 := hP 2 _ rfl
  have q0 := hC 0 _ rfl
  have q2 := hC 2 _ rfl
  have q4 := hC 4 _ rfl
  have z0 := hX 0 _ rfl
  have z1 := hX 1 _ rfl
  have z2 := hX 2 _ rfl
  have HB1 := Lib.hid hb1
  have HP := Lib.hid hp
  have hji : (j : Int) < (c.ins.length : Int) := by omega
  have hj0 : (0 : Int) ≤ (j : Int) := by omega
  have hjb : (j : Int) ≤ 140737488355328 := by omega
  clear hP hC hX hb1 hp hs1
  have hE2 : E = (decide (0 ≤ xa) && decide (xa < c.caps) && decide (xb = 0)) := hE
  clear hE
  by_cases h1 : xa < 0
  · have f1 : decide (xa < 0) = true := decide_eq_true h1
    have HE : Hid (E = false) := by show _ = _; rw [hE2, decide_eq_false (by omega : ¬ 0 ≤ xa)]; simp
    clear hE2 h1
    go_enter Tryz.func59, Tryz.ntmps59
    go_wp2
    go_ret
    exact ⟨by rw [HE.out]; rfl, HB1.out⟩
  have f1 : decide (xa < 0) = false := decide_eq_false h1
  by_cases h2 : c.caps ≤ xa
  · have f2 : decide (c.caps ≤ xa) = true := decide_eq_true h2
    have HE : Hid (E = false) := by show _ = _; rw [hE2, decide_eq_false (by omega : ¬ xa < c.caps)]; simp
    clear hE2 h1 h2
    go_enter Tryz.func59, Tryz.ntmps59
    go_wp2
    go_ret
    exact ⟨by rw [HE.out]; rfl, HB1.out⟩
  have f2 : decide (c.caps ≤ xa) = false := decide_eq_false h2
  by_cases h3 : xb = 0
  · have f3 : (xb == 0) = true := beq_iff_eq.2 h3
    have HE : Hid (E = true) := by show _ = _; rw [hE2, decide_eq_true (by omega : 0 ≤ xa), decide_eq_true (by omega : xa < c.caps), decide_eq_true h3]; rfl
    clear hE2 h1 h2 h3
    go_enter Tryz.func59, Tryz.ntmps59
    go_wp2
    go_ret
    exact ⟨by rw [HE.out]; rfl, HB1.out⟩
  · have f3 : (xb == 0) = false := beq_eq_false_iff_ne.2 h3
    have HE : Hid (E = false) := by show _ = _; rw [hE2, decide_eq_false h3]; simp
    clear hE2 h1 h2 h3
    go_enter Tryz.func59, Tryz.ntmps59
    go_wp2
    go_ret
    exact ⟨by rw [HE.out]; rfl, HB1.out⟩
set_option maxRecDepth 100000 in
set_option maxHeartbeats 8000000 in
theorem rIns_4 {F : Nat → Prop} (p : Cd.Prog) (c : Cd.Code) (a1 a2 a3 : Option Addr) (c1 c2 c3 bi oi ci : Nat) (j : Nat) (xa xb : Int) (w : World) (hp : Cd.PRep F w p (.slice a1 p.codes.length c1) (.slice a2 p.consts.length c2) (.slice a3 p.names.length c3)) (hl : c.ins.length ≤ 140737488355328) (hj : j < c.ins.length) (hbi : bi < w.heap.size)
    (x0 : w.cell? ⟨bi, oi + j * 3, none⟩ = some (.int .i64 4)) (x1 : w.cell? ⟨bi, oi + j * 3 + 1, none⟩ = some (.int .i64 xa)) (x2 : w.cell? ⟨bi, oi + j * 3 + 2, none⟩ = some (.int .i64 xb)) :
    Calls Tryz.prog 59 #[.agg #[.slice a1 p.codes.length c1, .slice a2 p.consts.length c2, .slice a3 p.names.length c3], .agg #[.int .i64 c.params, .int .i64 c.rest, .int .i64 c.caps, .int .i64 c.max, .slice (some ⟨bi, oi, none⟩) c.ins.length ci], .int .i64 (j : Int)] w fun e w' => e = .returned (.bool (Cd.okIns p c j ⟨4, xa, xb⟩)) ∧ Below w.heap.size w w' := by
  obtain ⟨E, hE⟩ : ∃ E, E = Cd.okIns p c j ⟨4, xa, xb⟩ := ⟨_, rfl⟩
  rw [← hE]
  obtain ⟨w1, hw1⟩ : ∃ w1, ((w.alloc (.cells #[.slice a1 p.codes.length c1, .slice a2 p.consts.length c2, .slice a3 p.names.length c3] 26)).alloc (.cells #[.int .i64 c.params, .int .i64 c.rest, .int .i64 c.caps, .int .i64 c.max, .slice (some ⟨bi, oi, none⟩) c.ins.length ci] 47)).alloc (.cells #[.int .i64 4, .int .i64 xa, .int .i64 xb] 55) = w1 := ⟨_, rfl⟩
  obtain ⟨hb1, hs1, hP, hC, hX⟩ := Cd.boxes3 w _ _ _ _ _ _ hw1
  have p0 := hP 0 _ rfl
  have p1 := hP 1 _ rfl
  have p2 := hP 2 _ rfl
  have q0 := hC 0 _ rfl
  have q2 := hC 2 _ rfl
  have q4 := hC 4 _ rfl
  have z0 := hX 0 _ rfl
  have z1 := hX 1 _ rfl
  have z2 := hX 2 _ rfl
  have HB1 := Lib.hid hb1
  have HP := Lib.hid hp
  have hji : (j : Int) < (c.ins.length : Int) := by omega
  have hj0 : (0 : Int) ≤ (j : Int) := by omega
  have hjb : (j : Int) ≤ 140737488355328 := by omega
  clear hP hC hX hb1 hp hs1
  have hE2 : E = (decide (0 ≤ xa) && decide (xa < (p.names.length : Int)) && decide (xb = 0)) := hE
  clear hE
  by_cases h1 : xa < 0
  · have f1 : decide (xa < 0) = true := decide_eq_true h1
    have HE : Hid (E = false) := by show _ = _; rw [hE2, decide_eq_false (by omega : ¬ 0 ≤ xa)]; simp
    clear hE2 h1
    go_enter Tryz.func59, Tryz.ntmps59
    go_wp2
    go_ret
    exact ⟨by rw [HE.out]; rfl, HB1.out⟩
  have f1 : decide (xa < 0) = false := decide_eq_false h1
  by_cases h2 : (p.names.length : Int) ≤ xa
  · have f2 : decide ((p.names.length : Int) ≤ xa) = true := decide_eq_true h2
    have HE : Hid (E = false) := by show _ = _; rw [hE2, decide_eq_false (by omega : ¬ xa < (p.names.length : Int))]; simp
    clear hE2 h1 h2
    go_enter Tryz.func59, Tryz.ntmps59
    go_wp2
    go_ret
    exact ⟨by rw [HE.out]; rfl, HB1.out⟩
  have f2 : decide ((p.names.length : Int) ≤ xa) = false := decide_eq_false h2
  by_cases h3 : xb = 0
  · have f3 : (xb == 0) = true := beq_iff_eq.2 h3
    have HE : Hid (E = true) := by show _ = _; rw [hE2, decide_eq_true (by omega : 0 ≤ xa), decide_eq_true (by omega : xa < (p.names.length : Int)), decide_eq_true h3]; rfl
    clear hE2 h1 h2 h3
    go_enter Tryz.func59, Tryz.ntmps59
    go_wp2
    go_ret
    exact ⟨by rw [HE.out]; rfl, HB1.out⟩
  · have f3 : (xb == 0) = false := beq_eq_false_iff_ne.2 h3
    have HE : Hid (E = false) := by show _ = _; rw [hE2, decide_eq_false h3]; simp
    clear hE2 h1 h2 h3
    go_enter Tryz.func59, Tryz.ntmps59
    go_wp2
    go_ret
    exact ⟨by rw [HE.out]; rfl, HB1.out⟩
set_option maxRecDepth 100000 in
set_option maxHeartbeats 8000000 in
theorem rIns_5 {F : Nat → Prop} (p : Cd.Prog) (c : Cd.Code) (a1 a2 a3 : Option Addr) (c1 c2 c3 bi oi ci : Nat) (j : Nat) (xa xb : Int) (w : World) (hp : Cd.PRep F w p (.slice a1 p.codes.length c1) (.slice a2 p.consts.length c2) (.slice a3 p.names.length c3)) (hl : c.ins.length ≤ 140737488355328) (hj : j < c.ins.length) (hbi : bi < w.heap.size)
    (x0 : w.cell? ⟨bi, oi + j * 3, none⟩ = some (.int .i64 5)) (x1 : w.cell? ⟨bi, oi + j * 3 + 1, none⟩ = some (.int .i64 xa)) (x2 : w.cell? ⟨bi, oi + j * 3 + 2, none⟩ = some (.int .i64 xb)) :
    Calls Tryz.prog 59 #[.agg #[.slice a1 p.codes.length c1, .slice a2 p.consts.length c2, .slice a3 p.names.length c3], .agg #[.int .i64 c.params, .int .i64 c.rest, .int .i64 c.caps, .int .i64 c.max, .slice (some ⟨bi, oi, none⟩) c.ins.length ci], .int .i64 (j : Int)] w fun e w' => e = .returned (.bool (Cd.okIns p c j ⟨5, xa, xb⟩)) ∧ Below w.heap.size w w' := by
  obtain ⟨E, hE⟩ : ∃ E, E = Cd.okIns p c j ⟨5, xa, xb⟩ := ⟨_, rfl⟩
  rw [← hE]
  obtain ⟨w1, hw1⟩ : ∃ w1, ((w.alloc (.cells #[.slice a1 p.codes.length c1, .slice a2 p.consts.length c2, .slice a3 p.names.length c3] 26)).alloc (.cells #[.int .i64 c.params, .int .i64 c.rest, .int .i64 c.caps, .int .i64 c.max, .slice (some ⟨bi, oi, none⟩) c.ins.length ci] 47)).alloc (.cells #[.int .i64 5, .int .i64 xa, .int .i64 xb] 55) = w1 := ⟨_, rfl⟩
  obtain ⟨hb1, hs1, hP, hC, hX⟩ := Cd.boxes3 w _ _ _ _ _ _ hw1
  have p0 := hP 0 _ rfl
  have p1 := hP 1 _ rfl
  have p2 := hP 2 _ rfl
  have q0 := hC 0 _ rfl
  have q2 := hC 2 _ rfl
  have q4 := hC 4 _ rfl
  have z0 := hX 0 _ rfl
  have z1 := hX 1 _ rfl
  have z2 := hX 2 _ rfl
  have HB1 := Lib.hid hb1
  have HP := Lib.hid hp
  have hji : (j : Int) < (c.ins.length : Int) := by omega
  have hj0 : (0 : Int) ≤ (j : Int) := by omega
  have hjb : (j : Int) ≤ 140737488355328 := by omega
  clear hP hC hX hb1 hp hs1
  have hE2 : E = (decide (0 ≤ xa) && decide (xa < c.params) && decide (xb = 0)) := hE
  clear hE
  by_cases h1 : xa < 0
  · have f1 : decide (xa < 0) = true := decide_eq_true h1
    have HE : Hid (E = false) := by show _ = _; rw [hE2, decide_eq_false (by omega : ¬ 0 ≤ xa)]; simp
    clear hE2 h1
    go_enter Tryz.func59, Tryz.ntmps59
    go_wp2
    go_ret
    exact ⟨by rw [HE.out]; rfl, HB1.out⟩
  have f1 : decide (xa < 0) = false := decide_eq_false h1
  by_cases h2 : c.params ≤ xa
  · have f2 : decide (c.params ≤ xa) = true := decide_eq_true h2
    have HE : Hid (E = false) := by show _ = _; rw [hE2, decide_eq_false (by omega : ¬ xa < c.params)]; simp
    clear hE2 h1 h2
    go_enter Tryz.func59, Tryz.ntmps59
    go_wp2
    go_ret
    exact ⟨by rw [HE.out]; rfl, HB1.out⟩
  have f2 : decide (c.params ≤ xa) = false := decide_eq_false h2
  by_cases h3 : xb = 0
  · have f3 : (xb == 0) = true := beq_iff_eq.2 h3
    have HE : Hid (E = true) := by show _ = _; rw [hE2, decide_eq_true (by omega : 0 ≤ xa), decide_eq_true (by omega : xa < c.params), decide_eq_true h3]; rfl
    clear hE2 h1 h2 h3
    go_enter Tryz.func59, Tryz.ntmps59
    go_wp2
    go_ret
    exact ⟨by rw [HE.out]; rfl, HB1.out⟩
  · have f3 : (xb == 0) = false := beq_eq_false_iff_ne.2 h3
    have HE : Hid (E = false) := by show _ = _; rw [hE2, decide_eq_false h3]; simp
    clear hE2 h1 h2 h3
    go_enter Tryz.func59, Tryz.ntmps59
    go_wp2
    go_ret
    exact ⟨by rw [HE.out]; rfl, HB1.out⟩
set_option maxRecDepth 100000 in
set_option maxHeartbeats 8000000 in
theorem rIns_6 {F : Nat → Prop} (p : Cd.Prog) (c : Cd.Code) (a1 a2 a3 : Option Addr) (c1 c2 c3 bi oi ci : Nat) (j : Nat) (xa xb : Int) (w : World) (hp : Cd.PRep F w p (.slice a1 p.codes.length c1) (.slice a2 p.consts.length c2) (.slice a3 p.names.length c3)) (hl : c.ins.length ≤ 140737488355328) (hj : j < c.ins.length) (hbi : bi < w.heap.size)
    (x0 : w.cell? ⟨bi, oi + j * 3, none⟩ = some (.int .i64 6)) (x1 : w.cell? ⟨bi, oi + j * 3 + 1, none⟩ = some (.int .i64 xa)) (x2 : w.cell? ⟨bi, oi + j * 3 + 2, none⟩ = some (.int .i64 xb)) :
    Calls Tryz.prog 59 #[.agg #[.slice a1 p.codes.length c1, .slice a2 p.consts.length c2, .slice a3 p.names.length c3], .agg #[.int .i64 c.params, .int .i64 c.rest, .int .i64 c.caps, .int .i64 c.max, .slice (some ⟨bi, oi, none⟩) c.ins.length ci], .int .i64 (j : Int)] w fun e w' => e = .returned (.bool (Cd.okIns p c j ⟨6, xa, xb⟩)) ∧ Below w.heap.size w w' := by
  obtain ⟨E, hE⟩ : ∃ E, E = Cd.okIns p c j ⟨6, xa, xb⟩ := ⟨_, rfl⟩
  rw [← hE]
  obtain ⟨w1, hw1⟩ : ∃ w1, ((w.alloc (.cells #[.slice a1 p.codes.length c1, .slice a2 p.consts.length c2, .slice a3 p.names.length c3] 26)).alloc (.cells #[.int .i64 c.params, .int .i64 c.rest, .int .i64 c.caps, .int .i64 c.max, .slice (some ⟨bi, oi, none⟩) c.ins.length ci] 47)).alloc (.cells #[.int .i64 6, .int .i64 xa, .int .i64 xb] 55) = w1 := ⟨_, rfl⟩
  obtain ⟨hb1, hs1, hP, hC, hX⟩ := Cd.boxes3 w _ _ _ _ _ _ hw1
  have p0 := hP 0 _ rfl
  have p1 := hP 1 _ rfl
  have p2 := hP 2 _ rfl
  have q0 := hC 0 _ rfl
  have q2 := hC 2 _ rfl
  have q4 := hC 4 _ rfl
  have z0 := hX 0 _ rfl
  have z1 := hX 1 _ rfl
  have z2 := hX 2 _ rfl
  have HB1 := Lib.hid hb1
  have HP := Lib.hid hp
  have hji : (j : Int) < (c.ins.length : Int) := by omega
  have hj0 : (0 : Int) ≤ (j : Int) := by omega
  have hjb : (j : Int) ≤ 140737488355328 := by omega
  clear hP hC hX hb1 hp hs1
  have hE2 : E = (decide (0 ≤ xa) && decide (xa < 1) && decide (xb = 0)) := hE
  clear hE
  by_cases h1 : xa < 0
  · have f1 : decide (xa < 0) = true := decide_eq_true h1
    have HE : Hid (E = false) := by show _ = _; rw [hE2, decide_eq_false (by omega : ¬ 0 ≤ xa)]; simp
    clear hE2 h1
    go_enter Tryz.func59, Tryz.ntmps59
    go_wp2
    go_ret
    exact ⟨by rw [HE.out]; rfl, HB1.out⟩
  have f1 : decide (xa < 0) = false := decide_eq_false h1
  by_cases h2 : 1 ≤ xa
  · have f2 : decide (1 ≤ xa) = true := decide_eq_true h2
    have HE : Hid (E = false) := by show _ = _; rw [hE2, decide_eq_false (by omega : ¬ xa < 1)]; simp
    clear hE2 h1 h2
    go_enter Tryz.func59, Tryz.ntmps59
    go_wp2
    go_ret
    exact ⟨by rw [HE.out]; rfl, HB1.out⟩
  have f2 : decide (1 ≤ xa) = false := decide_eq_false h2
  by_cases h3 : xb = 0
  · have f3 : (xb == 0) = true := beq_iff_eq.2 h3
    have HE : Hid (E = true) := by show _ = _; rw [hE2, decide_eq_true (by omega : 0 ≤ xa), decide_eq_true (by omega : xa < 1), decide_eq_true h3]; rfl
    clear hE2 h1 h2 h3
    go_enter Tryz.func59, Tryz.ntmps59
    go_wp2
    go_ret
    exact ⟨by rw [HE.out]; rfl, HB1.out⟩
  · have f3 : (xb == 0) = false := beq_eq_false_iff_ne.2 h3
    have HE : Hid (E = false) := by show _ = _; rw [hE2, decide_eq_false h3]; simp
    clear hE2 h1 h2 h3
    go_enter Tryz.func59, Tryz.ntmps59
    go_wp2
    go_ret
    exact ⟨by rw [HE.out]; rfl, HB1.out⟩
set_option maxRecDepth 100000 in
set_option maxHeartbeats 8000000 in
theorem rIns_7 {F : Nat → Prop} (p : Cd.Prog) (c : Cd.Code) (a1 a2 a3 : Option Addr) (c1 c2 c3 bi oi ci : Nat) (j : Nat) (xa xb : Int) (w : World) (hp : Cd.PRep F w p (.slice a1 p.codes.length c1) (.slice a2 p.consts.length c2) (.slice a3 p.names.length c3)) (hl : c.ins.length ≤ 140737488355328) (hj : j < c.ins.length) (hbi : bi < w.heap.size)
    (x0 : w.cell? ⟨bi, oi + j * 3, none⟩ = some (.int .i64 7)) (x1 : w.cell? ⟨bi, oi + j * 3 + 1, none⟩ = some (.int .i64 xa)) (x2 : w.cell? ⟨bi, oi + j * 3 + 2, none⟩ = some (.int .i64 xb)) :
    Calls Tryz.prog 59 #[.agg #[.slice a1 p.codes.length c1, .slice a2 p.consts.length c2, .slice a3 p.names.length c3], .agg #[.int .i64 c.params, .int .i64 c.rest, .int .i64 c.caps, .int .i64 c.max, .slice (some ⟨bi, oi, none⟩) c.ins.length ci], .int .i64 (j : Int)] w fun e w' => e = .returned (.bool (Cd.okIns p c j ⟨7, xa, xb⟩)) ∧ Below w.heap.size w w' := by
  obtain ⟨E, hE⟩ : ∃ E, E = Cd.okIns p c j ⟨7, xa, xb⟩ := ⟨_, rfl⟩
  rw [← hE]
  obtain ⟨w1, hw1⟩ : ∃ w1, ((w.alloc (.cells #[.slice a1 p.codes.length c1, .slice a2 p.consts.length c2, .slice a3 p.names.length c3] 26)).alloc (.cells #[.int .i64 c.params, .int .i64 c.rest, .int .i64 c.caps, .int .i64 c.max, .slice (some ⟨bi, oi, none⟩) c.ins.length ci] 47)).alloc (.cells #[.int .i64 7, .int .i64 xa, .int .i64 xb] 55) = w1 := ⟨_, rfl⟩
  obtain ⟨hb1, hs1, hP, hC, hX⟩ := Cd.boxes3 w _ _ _ _ _ _ hw1
  have p0 := hP 0 _ rfl
  have p1 := hP 1 _ rfl
  have p2 := hP 2 _ rfl
  have q0 := hC 0 _ rfl
  have q2 := hC 2 _ rfl
  have q4 := hC 4 _ rfl
  have z0 := hX 0 _ rfl
  have z1 := hX 1 _ rfl
  have z2 := hX 2 _ rfl
  have HB1 := Lib.hid hb1
  have HP := Lib.hid hp
  have hji : (j : Int) < (c.ins.length : Int) := by omega
  have hj0 : (0 : Int) ≤ (j : Int) := by omega
  have hjb : (j : Int) ≤ 140737488355328 := by omega
  clear hP hC hX hb1 hp hs1
  have hE2 : E = (decide (0 ≤ xa) && decide (xa < 1) && decide (xb = 0)) := hE
  clear hE
  by_cases h1 : xa < 0
  · have f1 : decide (xa < 0) = true := decide_eq_true h1
    have HE : Hid (E = false) := by show _ = _; rw [hE2, decide_eq_false (by omega : ¬ 0 ≤ xa)]; simp
    clear hE2 h1
    go_enter Tryz.func59, Tryz.ntmps59
    go_wp2
    go_ret
    exact ⟨by rw [HE.out]; rfl, HB1.out⟩
  have f1 : decide (xa < 0) = false := decide_eq_false h1
  by_cases h2 : 1 ≤ xa
  · have f2 : decide (1 ≤ xa) = true := decide_eq_true h2
    have HE : Hid (E = false) := by show _ = _; rw [hE2, decide_eq_false (by omega : ¬ xa < 1)]; simp
    clear hE2 h1 h2
    go_enter Tryz.func59, Tryz.ntmps59
    go_wp2
    go_ret
    exact ⟨by rw [HE.out]; rfl, HB1.out⟩
  have f2 : decide (1 ≤ xa) = false := decide_eq_false h2
  by_cases h3 : xb = 0
  · have f3 : (xb == 0) = true := beq_iff_eq.2 h3
    have HE : Hid (E = true) := by show _ = _; rw [hE2, decide_eq_true (by omega : 0 ≤ xa), decide_eq_true (by omega : xa < 1), decide_eq_true h3]; rfl
    clear hE2 h1 h2 h3
    go_enter Tryz.func59, Tryz.ntmps59
    go_wp2
    go_ret
    exact ⟨by rw [HE.out]; rfl, HB1.out⟩
  · have f3 : (xb == 0) = false := beq_eq_false_iff_ne.2 h3
    have HE : Hid (E = false) := by show _ = _; rw [hE2, decide_eq_false h3]; simp
    clear hE2 h1 h2 h3
    go_enter Tryz.func59, Tryz.ntmps59
    go_wp2
    go_ret
    exact ⟨by rw [HE.out]; rfl, HB1.out⟩
set_option maxRecDepth 100000 in
set_option maxHeartbeats 8000000 in
theorem rIns_8 {F : Nat → Prop} (p : Cd.Prog) (c : Cd.Code) (a1 a2 a3 : Option Addr) (c1 c2 c3 bi oi ci : Nat) (j : Nat) (xa xb : Int) (w : World) (hp : Cd.PRep F w p (.slice a1 p.codes.length c1) (.slice a2 p.consts.length c2) (.slice a3 p.names.length c3)) (hl : c.ins.length ≤ 140737488355328) (hj : j < c.ins.length) (hbi : bi < w.heap.size)
    (x0 : w.cell? ⟨bi, oi + j * 3, none⟩ = some (.int .i64 8)) (x1 : w.cell? ⟨bi, oi + j * 3 + 1, none⟩ = some (.int .i64 xa)) (x2 : w.cell? ⟨bi, oi + j * 3 + 2, none⟩ = some (.int .i64 xb)) :
    Calls Tryz.prog 59 #[.agg #[.slice a1 p.codes.length c1, .slice a2 p.consts.length c2, .slice a3 p.names.length c3], .agg #[.int .i64 c.params, .int .i64 c.rest, .int .i64 c.caps, .int .i64 c.max, .slice (some ⟨bi, oi, none⟩) c.ins.length ci], .int .i64 (j : Int)] w fun e w' => e = .returned (.bool (Cd.okIns p c j ⟨8, xa, xb⟩)) ∧ Below w.heap.size w w' := by
  obtain ⟨E, hE⟩ : ∃ E, E = Cd.okIns p c j ⟨8, xa, xb⟩ := ⟨_, rfl⟩
  rw [← hE]
  obtain ⟨w1, hw1⟩ : ∃ w1, ((w.alloc (.cells #[.slice a1 p.codes.length c1, .slice a2 p.consts.length c2, .slice a3 p.names.length c3] 26)).alloc (.cells #[.int .i64 c.params, .int .i64 c.rest, .int .i64 c.caps, .int .i64 c.max, .slice (some ⟨bi, oi, none⟩) c.ins.length ci] 47)).alloc (.cells #[.int .i64 8, .int .i64 xa, .int .i64 xb] 55) = w1 := ⟨_, rfl⟩
  obtain ⟨hb1, hs1, hP, hC, hX⟩ := Cd.boxes3 w _ _ _ _ _ _ hw1
  have p0 := hP 0 _ rfl
  have p1 := hP 1 _ rfl
  have p2 := hP 2 _ rfl
  have q0 := hC 0 _ rfl
  have q2 := hC 2 _ rfl
  have q4 := hC 4 _ rfl
  have z0 := hX 0 _ rfl
  have z1 := hX 1 _ rfl
  have z2 := hX 2 _ rfl
  have HB1 := Lib.hid hb1
  have HP := Lib.hid hp
  have hji : (j : Int) < (c.ins.length : Int) := by omega
  have hj0 : (0 : Int) ≤ (j : Int) := by omega
  have hjb : (j : Int) ≤ 140737488355328 := by omega
  clear hP hC hX hb1 hp hs1
  have hE2 : E = (decide (0 ≤ xa) && decide (xa < (p.names.length : Int)) && decide (xb = 0)) := hE
  clear hE
  by_cases h1 : xa < 0
  · have f1 : decide (xa < 0) = true := decide_eq_true h1
    have HE : Hid (E = false) := by show _ = _; rw [hE2, decide_eq_false (by omega : ¬ 0 ≤ xa)]; simp
    clear hE2 h1
    go_enter Tryz.func59, Tryz.ntmps59
    go_wp2
    go_ret
    exact ⟨by rw [HE.out]; rfl, HB1.out⟩
  have f1 : decide (xa < 0) = false := decide_eq_false h1
  by_cases h2 : (p.names.length : Int) ≤ xa
  · have f2 : decide ((p.names.length : Int) ≤ xa) = true := decide_eq_true h2
    have HE : Hid (E = false) := by show _ = _; rw [hE2, decide_eq_false (by omega : ¬ xa < (p.names.length : Int))]; simp
    clear hE2 h1 h2
    go_enter Tryz.func59, Tryz.ntmps59
    go_wp2
    go_ret
    exact ⟨by rw [HE.out]; rfl, HB1.out⟩
  have f2 : decide ((p.names.length : Int) ≤ xa) = false := decide_eq_false h2
  by_cases h3 : xb = 0
  · have f3 : (xb == 0) = true := beq_iff_eq.2 h3
    have HE : Hid (E = true) := by show _ = _; rw [hE2, decide_eq_true (by omega : 0 ≤ xa), decide_eq_true (by omega : xa < (p.names.length : Int)), decide_eq_true h3]; rfl
    clear hE2 h1 h2 h3
    go_enter Tryz.func59, Tryz.ntmps59
    go_wp2
    go_ret
    exact ⟨by rw [HE.out]; rfl, HB1.out⟩
  · have f3 : (xb == 0) = false := beq_eq_false_iff_ne.2 h3
    have HE : Hid (E = false) := by show _ = _; rw [hE2, decide_eq_false h3]; simp
    clear hE2 h1 h2 h3
    go_enter Tryz.func59, Tryz.ntmps59
    go_wp2
    go_ret
    exact ⟨by rw [HE.out]; rfl, HB1.out⟩
set_option maxRecDepth 100000 in
set_option maxHeartbeats 8000000 in
theorem rIns_9 {F : Nat → Prop} (p : Cd.Prog) (c : Cd.Code) (a1 a2 a3 : Option Addr) (c1 c2 c3 bi oi ci : Nat) (j : Nat) (xa xb : Int) (w : World) (hp : Cd.PRep F w p (.slice a1 p.codes.length c1) (.slice a2 p.consts.length c2) (.slice a3 p.names.length c3)) (hl : c.ins.length ≤ 140737488355328) (hj : j < c.ins.length) (hbi : bi < w.heap.size)
    (x0 : w.cell? ⟨bi, oi + j * 3, none⟩ = some (.int .i64 9)) (x1 : w.cell? ⟨bi, oi + j * 3 + 1, none⟩ = some (.int .i64 xa)) (x2 : w.cell? ⟨bi, oi + j * 3 + 2, none⟩ = some (.int .i64 xb)) :
    Calls Tryz.prog 59 #[.agg #[.slice a1 p.codes.length c1, .slice a2 p.consts.length c2, .slice a3 p.names.length c3], .agg #[.int .i64 c.params, .int .i64 c.rest, .int .i64 c.caps, .int .i64 c.max, .slice (some ⟨bi, oi, none⟩) c.ins.length ci], .int .i64 (j : Int)] w fun e w' => e = .returned (.bool (Cd.okIns p c j ⟨9, xa, xb⟩)) ∧ Below w.heap.size w w' := by
  obtain ⟨E, hE⟩ : ∃ E, E = Cd.okIns p c j ⟨9, xa, xb⟩ := ⟨_, rfl⟩
  rw [← hE]
  obtain ⟨w1, hw1⟩ : ∃ w1, ((w.alloc (.cells #[.slice a1 p.codes.length c1, .slice a2 p.consts.length c2, .slice a3 p.names.length c3] 26)).alloc (.cells #[.int .i64 c.params, .int .i64 c.rest, .int .i64 c.caps, .int .i64 c.max, .slice (some ⟨bi, oi, none⟩) c.ins.length ci] 47)).alloc (.cells #[.int .i64 9, .int .i64 xa, .int .i64 xb] 55) = w1 := ⟨_, rfl⟩
  obtain ⟨hb1, hs1, hP, hC, hX⟩ := Cd.boxes3 w _ _ _ _ _ _ hw1
  have p0 := hP 0 _ rfl
  have p1 := hP 1 _ rfl
  have p2 := hP 2 _ rfl
  have q0 := hC 0 _ rfl
  have q2 := hC 2 _ rfl
  have q4 := hC 4 _ rfl
  have z0 := hX 0 _ rfl
  have z1 := hX 1 _ rfl
  have z2 := hX 2 _ rfl
  have HB1 := Lib.hid hb1
  have HP := Lib.hid hp
  have hji : (j : Int) < (c.ins.length : Int) := by omega
  have hj0 : (0 : Int) ≤ (j : Int) := by omega
  have hjb : (j : Int) ≤ 140737488355328 := by omega
  clear hP hC hX hb1 hp hs1
  have hE2 : E = (decide (0 ≤ xa) && decide (xa < (p.names.length : Int)) && decide (xb = 0)) := hE
  clear hE
  by_cases h1 : xa < 0
  · have f1 : decide (xa < 0) = true := decide_eq_true h1
    have HE : Hid (E = false) := by show _ = _; rw [hE2, decide_eq_false (by omega : ¬ 0 ≤ xa)]; simp
    clear hE2 h1
    go_enter Tryz.func59, Tryz.ntmps59
    go_wp2
    go_ret
    exact ⟨by rw [HE.out]; rfl, HB1.out⟩
  have f1 : decide (xa < 0) = false := decide_eq_false h1
  by_cases h2 : (p.names.length : Int) ≤ xa
  · have f2 : decide ((p.names.length : Int) ≤ xa) = true := decide_eq_true h2
    have HE : Hid (E = false) := by show _ = _; rw [hE2, decide_eq_false (by omega : ¬ xa < (p.names.length : Int))]; simp
    clear hE2 h1 h2
    go_enter Tryz.func59, Tryz.ntmps59
    go_wp2
    go_ret
    exact ⟨by rw [HE.out]; rfl, HB1.out⟩
  have f2 : decide ((p.names.length : Int) ≤ xa) = false := decide_eq_false h2
  by_cases h3 : xb = 0
  · have f3 : (xb == 0) = true := beq_iff_eq.2 h3
    have HE : Hid (E = true) := by show _ = _; rw [hE2, decide_eq_true (by omega : 0 ≤ xa), decide_eq_true (by omega : xa < (p.names.length : Int)), decide_eq_true h3]; rfl
    clear hE2 h1 h2 h3
    go_enter Tryz.func59, Tryz.ntmps59
    go_wp2
    go_ret
    exact ⟨by rw [HE.out]; rfl, HB1.out⟩
  · have f3 : (xb == 0) = false := beq_eq_false_iff_ne.2 h3
    have HE : Hid (E = false) := by show _ = _; rw [hE2, decide_eq_false h3]; simp
    clear hE2 h1 h2 h3
    go_enter Tryz.func59, Tryz.ntmps59
    go_wp2
    go_ret
    exact ⟨by rw [HE.out]; rfl, HB1.out⟩
set_option maxRecDepth 100000 in
set_option maxHeartbeats 8000000 in
theorem rIns_10 {F : Nat → Prop} (p : Cd.Prog) (c : Cd.Code) (a1 a2 a3 : Option Addr) (c1 c2 c3 bi oi ci : Nat) (j : Nat) (xa xb : Int) (w : World) (hp : Cd.PRep F w p (.slice a1 p.codes.length c1) (.slice a2 p.consts.length c2) (.slice a3 p.names.length c3)) (hl : c.ins.length ≤ 140737488355328) (hj : j < c.ins.length) (hbi : bi < w.heap.size)
    (x0 : w.cell? ⟨bi, oi + j * 3, none⟩ = some (.int .i64 10)) (x1 : w.cell? ⟨bi, oi + j * 3 + 1, none⟩ = some (.int .i64 xa)) (x2 : w.cell? ⟨bi, oi + j * 3 + 2, none⟩ = some (.int .i64 xb)) :
    Calls Tryz.prog 59 #[.agg #[.slice a1 p.codes.length c1, .slice a2 p.consts.length c2, .slice a3 p.names.length c3], .agg #[.int .i64 c.params, .int .i64 c.rest, .int .i64 c.caps, .int .i64 c.max, .slice (some ⟨bi, oi, none⟩) c.ins.length ci], .int .i64 (j : Int)] w fun e w' => e = .returned (.bool (Cd.okIns p c j ⟨10, xa, xb⟩)) ∧ Below w.heap.size w w' := by
  obtain ⟨E, hE⟩ : ∃ E, E = Cd.okIns p c j ⟨10, xa, xb⟩ := ⟨_, rfl⟩
  rw [← hE]
  obtain ⟨w1, hw1⟩ : ∃ w1, ((w.alloc (.cells #[.slice a1 p.codes.length c1, .slice a2 p.consts.length c2, .slice a3 p.names.length c3] 26)).alloc (.cells #[.int .i64 c.params, .int .i64 c.rest, .int .i64 c.caps, .int .i64 c.max, .slice (some ⟨bi, oi, none⟩) c.ins.length ci] 47)).alloc (.cells #[.int .i64 10, .int .i64 xa, .int .i64 xb] 55) = w1 := ⟨_, rfl⟩
  obtain ⟨hb1, hs1, hP, hC, hX⟩ := Cd.boxes3 w _ _ _ _ _ _ hw1
  have p0 := hP 0 _ rfl
  have p1 := hP 1 _ rfl
  have p2 := hP 2 _ rfl
  have q0 := hC 0 _ rfl
  have q2 := hC 2 _ rfl
  have q4 := hC 4 _ rfl
  have z0 := hX 0 _ rfl
  have z1 := hX 1 _ rfl
  have z2 := hX 2 _ rfl
  have HB1 := Lib.hid hb1
  have HP := Lib.hid hp
  have hji : (j : Int) < (c.ins.length : Int) := by omega
  have hj0 : (0 : Int) ≤ (j : Int) := by omega
  have hjb : (j : Int) ≤ 140737488355328 := by omega
  clear hP hC hX hb1 hp hs1
  have hE2 : E = (decide (((j : Int) + 1) ≤ xa) && decide (xa < (c.ins.length : Int)) && decide (xb = 0)) := hE
  clear hE
  by_cases h1 : xa < ((j : Int) + 1)
  · have f1 : decide (xa < ((j : Int) + 1)) = true := decide_eq_true h1
    have HE : Hid (E = false) := by show _ = _; rw [hE2, decide_eq_false (by omega : ¬ ((j : Int) + 1) ≤ xa)]; simp
    clear hE2 h1
    go_enter Tryz.func59, Tryz.ntmps59
    go_wp2
    go_ret
    exact ⟨by rw [HE.out]; rfl, HB1.out⟩
  have f1 : decide (xa < ((j : Int) + 1)) = false := decide_eq_false h1
  by_cases h2 : (c.ins.length : Int) ≤ xa
  · have f2 : decide ((c.ins.length : Int) ≤ xa) = true := decide_eq_true h2
    have HE : Hid (E = false) := by show _ = _; rw [hE2, decide_eq_false (by omega : ¬ xa < (c.ins.length : Int))]; simp
    clear hE2 h1 h2
    go_enter Tryz.func59, Tryz.ntmps59
    go_wp2
    go_ret
    exact ⟨by rw [HE.out]; rfl, HB1.out⟩
  have f2 : decide ((c.ins.length : Int) ≤ xa) = false := decide_eq_false h2
  by_cases h3 : xb = 0
  · have f3 : (xb == 0) = true := beq_iff_eq.2 h3
    have HE : Hid (E = true) := by show _ = _; rw [hE2, decide_eq_true (by omega : ((j : Int) + 1) ≤ xa), decide_eq_true (by omega : xa < (c.ins.length : Int)), decide_eq_true h3]; rfl
    clear hE2 h1 h2 h3
    go_enter Tryz.func59, Tryz.ntmps59
    go_wp2
    go_ret
    exact ⟨by rw [HE.out]; rfl, HB1.out⟩
  · have f3 : (xb == 0) = false := beq_eq_false_iff_ne.2 h3
    have HE : Hid (E = false) := by show _ = _; rw [hE2, decide_eq_false h3]; simp
    clear hE2 h1 h2 h3
    go_enter Tryz.func59, Tryz.ntmps59
    go_wp2
    go_ret
    exact ⟨by rw [HE.out]; rfl, HB1.out⟩
set_option maxRecDepth 100000 in
set_option maxHeartbeats 8000000 in
theorem rIns_11 {F : Nat → Prop} (p : Cd.Prog) (c : Cd.Code) (a1 a2 a3 : Option Addr) (c1 c2 c3 bi oi ci : Nat) (j : Nat) (xa xb : Int) (w : World) (hp : Cd.PRep F w p (.slice a1 p.codes.length c1) (.slice a2 p.consts.length c2) (.slice a3 p.names.length c3)) (hl : c.ins.length ≤ 140737488355328) (hj : j < c.ins.length) (hbi : bi < w.heap.size)
    (x0 : w.cell? ⟨bi, oi + j * 3, none⟩ = some (.int .i64 11)) (x1 : w.cell? ⟨bi, oi + j * 3 + 1, none⟩ = some (.int .i64 xa)) (x2 : w.cell? ⟨bi, oi + j * 3 + 2, none⟩ = some (.int .i64 xb)) :
    Calls Tryz.prog 59 #[.agg #[.slice a1 p.codes.length c1, .slice a2 p.consts.length c2, .slice a3 p.names.length c3], .agg #[.int .i64 c.params, .int .i64 c.rest, .int .i64 c.caps, .int .i64 c.max, .slice (some ⟨bi, oi, none⟩) c.ins.length ci], .int .i64 (j : Int)] w fun e w' => e = .returned (.bool (Cd.okIns p c j ⟨11, xa, xb⟩)) ∧ Below w.heap.size w w' := by
  obtain ⟨E, hE⟩ : ∃ E, E = Cd.okIns p c j ⟨11, xa, xb⟩ := ⟨_, rfl⟩
  rw [← hE]
  obtain ⟨w1, hw1⟩ : ∃ w1, ((w.alloc (.cells #[.slice a1 p.codes.length c1, .slice a2 p.consts.length c2, .slice a3 p.names.length c3] 26)).alloc (.cells #[.int .i64 c.params, .int .i64 c.rest, .int .i64 c.caps, .int .i64 c.max, .slice (some ⟨bi, oi, none⟩) c.ins.length ci] 47)).alloc (.cells #[.int .i64 11, .int .i64 xa, .int .i64 xb] 55) = w1 := ⟨_, rfl⟩
  obtain ⟨hb1, hs1, hP, hC, hX⟩ := Cd.boxes3 w _ _ _ _ _ _ hw1
  have p0 := hP 0 _ rfl
  have p1 := hP 1 _ rfl
  have p2 := hP 2 _ rfl
  have q0 := hC 0 _ rfl
  have q2 := hC 2 _ rfl
  have q4 := hC 4 _ rfl
  have z0 := hX 0 _ rfl
  have z1 := hX 1 _ rfl
  have z2 := hX 2 _ rfl
  have HB1 := Lib.hid hb1
  have HP := Lib.hid hp
  have hji : (j : Int) < (c.ins.length : Int) := by omega
  have hj0 : (0 : Int) ≤ (j : Int) := by omega
  have hjb : (j : Int) ≤ 140737488355328 := by omega
  clear hP hC hX hb1 hp hs1
  have hE2 : E = (decide (((j : Int) + 1) ≤ xa) && decide (xa < (c.ins.length : Int)) && decide (xb = 0)) := hE
  clear hE
  by_cases h1 : xa < ((j : Int) + 1)
  · have f1 : decide (xa < ((j : Int) + 1)) = true := decide_eq_true h1
    have HE : Hid (E = false) := by show _ = _; rw [hE2, decide_eq_false (by omega : ¬ ((j : Int) + 1) ≤ xa)]; simp
    clear hE2 h1
    go_enter Tryz.func59, Tryz.ntmps59
    go_wp2
    go_ret
    exact ⟨by rw [HE.out]; rfl, HB1.out⟩
  have f1 : decide (xa < ((j : Int) + 1)) = false := decide_eq_false h1
  by_cases h2 : (c.ins.length : Int) ≤ xa
  · have f2 : decide ((c.ins.length : Int) ≤ xa) = true := decide_eq_true h2
    have HE : Hid (E = false) := by show _ = _; rw [hE2, decide_eq_false (by omega : ¬ xa < (c.ins.length : Int))]; simp
    clear hE2 h1 h2
    go_enter Tryz.func59, Tryz.ntmps59
    go_wp2
    go_ret
    exact ⟨by rw [HE.out]; rfl, HB1.out⟩
  have f2 : decide ((c.ins.length : Int) ≤ xa) = false := decide_eq_false h2
  by_cases h3 : xb = 0
  · have f3 : (xb == 0) = true := beq_iff_eq.2 h3
    have HE : Hid (E = true) := by show _ = _; rw [hE2, decide_eq_true (by omega : ((j : Int) + 1) ≤ xa), decide_eq_true (by omega : xa < (c.ins.length : Int)), decide_eq_true h3]; rfl
    clear hE2 h1 h2 h3
    go_enter Tryz.func59, Tryz.ntmps59
    go_wp2
    go_ret
    exact ⟨by rw [HE.out]; rfl, HB1.out⟩
  · have f3 : (xb == 0) = false := beq_eq_false_iff_ne.2 h3
    have HE : Hid (E = false) := by show _ = _; rw [hE2, decide_eq_false h3]; simp
    clear hE2 h1 h2 h3
    go_enter Tryz.func59, Tryz.ntmps59
    go_wp2
    go_ret
    exact ⟨by rw [HE.out]; rfl, HB1.out⟩
set_option maxRecDepth 100000 in
set_option maxHeartbeats 8000000 in
theorem rIns_12 {F : Nat → Prop} (p : Cd.Prog) (c : Cd.Code) (a1 a2 a3 : Option Addr) (c1 c2 c3 bi oi ci : Nat) (j : Nat) (xa xb : Int) (w : World) (hp : Cd.PRep F w p (.slice a1 p.codes.length c1) (.slice a2 p.consts.length c2) (.slice a3 p.names.length c3)) (hl : c.ins.length ≤ 140737488355328) (hj : j < c.ins.length) (hbi : bi < w.heap.size)
    (x0 : w.cell? ⟨bi, oi + j * 3, none⟩ = some (.int .i64 12)) (x1 : w.cell? ⟨bi, oi + j * 3 + 1, none⟩ = some (.int .i64 xa)) (x2 : w.cell? ⟨bi, oi + j * 3 + 2, none⟩ = some (.int .i64 xb)) :
    Calls Tryz.prog 59 #[.agg #[.slice a1 p.codes.length c1, .slice a2 p.consts.length c2, .slice a3 p.names.length c3], .agg #[.int .i64 c.params, .int .i64 c.rest, .int .i64 c.caps, .int .i64 c.max, .slice (some ⟨bi, oi, none⟩) c.ins.length ci], .int .i64 (j : Int)] w fun e w' => e = .returned (.bool (Cd.okIns p c j ⟨12, xa, xb⟩)) ∧ Below w.heap.size w w' := by
  obtain ⟨E, hE⟩ : ∃ E, E = Cd.okIns p c j ⟨12, xa, xb⟩ := ⟨_, rfl⟩
  rw [← hE]
  obtain ⟨w1, hw1⟩ : ∃ w1, ((w.alloc (.cells #[.slice a1 p.codes.length c1, .slice a2 p.consts.length c2, .slice a3 p.names.length c3] 26)).alloc (.cells #[.int .i64 c.params, .int .i64 c.rest, .int .i64 c.caps, .int .i64 c.max, .slice (some ⟨bi, oi, none⟩) c.ins.length ci] 47)).alloc (.cells #[.int .i64 12, .int .i64 xa, .int .i64 xb] 55) = w1 := ⟨_, rfl⟩
  obtain ⟨hb1, hs1, hP, hC, hX⟩ := Cd.boxes3 w _ _ _ _ _ _ hw1
  have p0 := hP 0 _ rfl
  have p1 := hP 1 _ rfl
  have p2 := hP 2 _ rfl
  have q0 := hC 0 _ rfl
  have q2 := hC 2 _ rfl
  have q4 := hC 4 _ rfl
  have z0 := hX 0 _ rfl
  have z1 := hX 1 _ rfl
  have z2 := hX 2 _ rfl
  have HB1 := Lib.hid hb1
  have HP := Lib.hid hp
  have hji : (j : Int) < (c.ins.length : Int) := by omega
  have hj0 : (0 : Int) ≤ (j : Int) := by omega
  have hjb : (j : Int) ≤ 140737488355328 := by omega
  clear hP hC hX hb1 hp hs1
  have hE2 : E = (decide (1 ≤ xa) && decide (xa < (p.codes.length : Int)) && decide (xb = Cd.capsOf p xa)) := hE
  clear hE
  by_cases h1 : xa < 1
  · have f1 : decide (xa < 1) = true := decide_eq_true h1
    have HE : Hid (E = false) := by show _ = _; rw [hE2, decide_eq_false (by omega : ¬ 1 ≤ xa)]; simp
    clear hE2 h1
    go_enter Tryz.func59, Tryz.ntmps59
    go_wp2
    go_ret
    exact ⟨by rw [HE.out]; rfl, HB1.out⟩
  have f1 : decide (xa < 1) = false := decide_eq_false h1
  by_cases h2 : (p.codes.length : Int) ≤ xa
  · have f2 : decide ((p.codes.length : Int) ≤ xa) = true := decide_eq_true h2
    have HE : Hid (E = false) := by show _ = _; rw [hE2, decide_eq_false (by omega : ¬ xa < (p.codes.length : Int))]; simp
    clear hE2 h1 h2
    go_enter Tryz.func59, Tryz.ntmps59
    go_wp2
    go_ret
    exact ⟨by rw [HE.out]; rfl, HB1.out⟩
  have f2 : decide ((p.codes.length : Int) ≤ xa) = false := decide_eq_false h2
  rw [decide_eq_true (by omega : 1 ≤ xa), decide_eq_true (by omega : xa < (p.codes.length : Int)), Bool.and_self, Bool.true_and] at hE2
  obtain ⟨k, rfl⟩ : ∃ k : Nat, xa = (k : Int) := ⟨xa.toNat, by omega⟩
  have hkl : k < p.codes.length := by omega
  obtain ⟨bc, oc, rfl, hbc, kc⟩ := Cd.caps_at HP.out.codes k hkl
  have kc5 := (HB1.out.cell (p := ⟨bc, oc + k * 5 + 2, none⟩) hbc).trans kc
  have hco : Cd.capsOf p (k : Int) = (p.codes[k]).caps := by
    unfold Cd.capsOf
    rw [Int.toNat_natCast, List.getElem?_eq_getElem hkl]
  obtain ⟨cp, hcp⟩ : ∃ cp, cp = (p.codes[k]).caps := ⟨_, rfl⟩
  rw [← hcp] at hco kc5
  rw [hco] at hE2
  have hk0 : (0 : Int) ≤ (k : Int) := by omega
  have hki : (k : Int) < (p.codes.length : Int) := by omega
  clear hco hkl hcp kc h1 h2
  by_cases h3 : xb = cp
  · have HE : Hid (E = true) := by show _ = _; rw [hE2, decide_eq_true h3]
    have h3' : (xb == cp) = true := beq_iff_eq.2 h3
    clear h3 hE2
    go_enter Tryz.func59, Tryz.ntmps59
    go_wp2_with fail
    go_quiet (fail)
    go_wp2
    go_ret
    exact ⟨by rw [HE.out]; rfl, Dt.bdrew HB1.out _⟩
  · have HE : Hid (E = false) := by show _ = _; rw [hE2, decide_eq_false h3]
    have h3' : (xb == cp) = false := beq_eq_false_iff_ne.2 h3
    clear h3 hE2
    go_enter Tryz.func59, Tryz.ntmps59
    go_wp2_with fail
    go_quiet (fail)
    go_wp2
    go_ret
    exact ⟨by rw [HE.out]; rfl, Dt.bdrew HB1.out _⟩
set_option maxRecDepth 100000 in
set_option maxHeartbeats 8000000 in
theorem rIns_13 {F : Nat → Prop} (p : Cd.Prog) (c : Cd.Code) (a1 a2 a3 : Option Addr) (c1 c2 c3 bi oi ci : Nat) (j : Nat) (xa xb : Int) (w : World) (hp : Cd.PRep F w p (.slice a1 p.codes.length c1) (.slice a2 p.consts.length c2) (.slice a3 p.names.length c3)) (hl : c.ins.length ≤ 140737488355328) (hj : j < c.ins.length) (hbi : bi < w.heap.size)
    (x0 : w.cell? ⟨bi, oi + j * 3, none⟩ = some (.int .i64 13)) (x1 : w.cell? ⟨bi, oi + j * 3 + 1, none⟩ = some (.int .i64 xa)) (x2 : w.cell? ⟨bi, oi + j * 3 + 2, none⟩ = some (.int .i64 xb)) :
    Calls Tryz.prog 59 #[.agg #[.slice a1 p.codes.length c1, .slice a2 p.consts.length c2, .slice a3 p.names.length c3], .agg #[.int .i64 c.params, .int .i64 c.rest, .int .i64 c.caps, .int .i64 c.max, .slice (some ⟨bi, oi, none⟩) c.ins.length ci], .int .i64 (j : Int)] w fun e w' => e = .returned (.bool (Cd.okIns p c j ⟨13, xa, xb⟩)) ∧ Below w.heap.size w w' := by
  obtain ⟨E, hE⟩ : ∃ E, E = Cd.okIns p c j ⟨13, xa, xb⟩ := ⟨_, rfl⟩
  rw [← hE]
  obtain ⟨w1, hw1⟩ : ∃ w1, ((w.alloc (.cells #[.slice a1 p.codes.length c1, .slice a2 p.consts.length c2, .slice a3 p.names.length c3] 26)).alloc (.cells #[.int .i64 c.params, .int .i64 c.rest, .int .i64 c.caps, .int .i64 c.max, .slice (some ⟨bi, oi, none⟩) c.ins.length ci] 47)).alloc (.cells #[.int .i64 13, .int .i64 xa, .int .i64 xb] 55) = w1 := ⟨_, rfl⟩
  obtain ⟨hb1, hs1, hP, hC, hX⟩ := Cd.boxes3 w _ _ _ _ _ _ hw1
  have p0 := hP 0 _ rfl
  have p1 := hP 1 _ rfl
  have p2 := hP 2 _ rfl
  have q0 := hC 0 _ rfl
  have q2 := hC 2 _ rfl
  have q4 := hC 4 _ rfl
  have z0 := hX 0 _ rfl
  have z1 := hX 1 _ rfl
  have z2 := hX 2 _ rfl
  have HB1 := Lib.hid hb1
  have HP := Lib.hid hp
  have hji : (j : Int) < (c.ins.length : Int) := by omega
  have hj0 : (0 : Int) ≤ (j : Int) := by omega
  have hjb : (j : Int) ≤ 140737488355328 := by omega
  clear hP hC hX hb1 hp hs1
  have hE2 : E = (decide (0 ≤ xa) && decide (xa < 33) && decide (xb = 0)) := hE
  clear hE
  by_cases h1 : xa < 0
  · have f1 : decide (xa < 0) = true := decide_eq_true h1
    have HE : Hid (E = false) := by show _ = _; rw [hE2, decide_eq_false (by omega : ¬ 0 ≤ xa)]; simp
    clear hE2 h1
    go_enter Tryz.func59, Tryz.ntmps59
    go_wp2
    go_ret
    exact ⟨by rw [HE.out]; rfl, HB1.out⟩
  have f1 : decide (xa < 0) = false := decide_eq_false h1
  by_cases h2 : 33 ≤ xa
  · have f2 : decide (33 ≤ xa) = true := decide_eq_true h2
    have HE : Hid (E = false) := by show _ = _; rw [hE2, decide_eq_false (by omega : ¬ xa < 33)]; simp
    clear hE2 h1 h2
    go_enter Tryz.func59, Tryz.ntmps59
    go_wp2
    go_ret
    exact ⟨by rw [HE.out]; rfl, HB1.out⟩
  have f2 : decide (33 ≤ xa) = false := decide_eq_false h2
  by_cases h3 : xb = 0
  · have f3 : (xb == 0) = true := beq_iff_eq.2 h3
    have HE : Hid (E = true) := by show _ = _; rw [hE2, decide_eq_true (by omega : 0 ≤ xa), decide_eq_true (by omega : xa < 33), decide_eq_true h3]; rfl
    clear hE2 h1 h2 h3
    go_enter Tryz.func59, Tryz.ntmps59
    go_wp2
    go_ret
    exact ⟨by rw [HE.out]; rfl, HB1.out⟩
  · have f3 : (xb == 0) = false := beq_eq_false_iff_ne.2 h3
    have HE : Hid (E = false) := by show _ = _; rw [hE2, decide_eq_false h3]; simp
    clear hE2 h1 h2 h3
    go_enter Tryz.func59, Tryz.ntmps59
    go_wp2
    go_ret
    exact ⟨by rw [HE.out]; rfl, HB1.out⟩
set_option maxRecDepth 100000 in
set_option maxHeartbeats 8000000 in
theorem rIns_14 {F : Nat → Prop} (p : Cd.Prog) (c : Cd.Code) (a1 a2 a3 : Option Addr) (c1 c2 c3 bi oi ci : Nat) (j : Nat) (xa xb : Int) (w : World) (hp : Cd.PRep F w p (.slice a1 p.codes.length c1) (.slice a2 p.consts.length c2) (.slice a3 p.names.length c3)) (hl : c.ins.length ≤ 140737488355328) (hj : j < c.ins.length) (hbi : bi < w.heap.size)
    (x0 : w.cell? ⟨bi, oi + j * 3, none⟩ = some (.int .i64 14)) (x1 : w.cell? ⟨bi, oi + j * 3 + 1, none⟩ = some (.int .i64 xa)) (x2 : w.cell? ⟨bi, oi + j * 3 + 2, none⟩ = some (.int .i64 xb)) :
    Calls Tryz.prog 59 #[.agg #[.slice a1 p.codes.length c1, .slice a2 p.consts.length c2, .slice a3 p.names.length c3], .agg #[.int .i64 c.params, .int .i64 c.rest, .int .i64 c.caps, .int .i64 c.max, .slice (some ⟨bi, oi, none⟩) c.ins.length ci], .int .i64 (j : Int)] w fun e w' => e = .returned (.bool (Cd.okIns p c j ⟨14, xa, xb⟩)) ∧ Below w.heap.size w w' := by
  obtain ⟨E, hE⟩ : ∃ E, E = Cd.okIns p c j ⟨14, xa, xb⟩ := ⟨_, rfl⟩
  rw [← hE]
  obtain ⟨w1, hw1⟩ : ∃ w1, ((w.alloc (.cells #[.slice a1 p.codes.length c1, .slice a2 p.consts.length c2, .slice a3 p.names.length c3] 26)).alloc (.cells #[.int .i64 c.params, .int .i64 c.rest, .int .i64 c.caps, .int .i64 c.max, .slice (some ⟨bi, oi, none⟩) c.ins.length ci] 47)).alloc (.cells #[.int .i64 14, .int .i64 xa, .int .i64 xb] 55) = w1 := ⟨_, rfl⟩
  obtain ⟨hb1, hs1, hP, hC, hX⟩ := Cd.boxes3 w _ _ _ _ _ _ hw1
  have p0 := hP 0 _ rfl
  have p1 := hP 1 _ rfl
  have p2 := hP 2 _ rfl
  have q0 := hC 0 _ rfl
  have q2 := hC 2 _ rfl
  have q4 := hC 4 _ rfl
  have z0 := hX 0 _ rfl
  have z1 := hX 1 _ rfl
  have z2 := hX 2 _ rfl
  have HB1 := Lib.hid hb1
  have HP := Lib.hid hp
  have hji : (j : Int) < (c.ins.length : Int) := by omega
  have hj0 : (0 : Int) ≤ (j : Int) := by omega
  have hjb : (j : Int) ≤ 140737488355328 := by omega
  clear hP hC hX hb1 hp hs1
  have hE2 : E = (decide (0 ≤ xa) && decide (xa < 33) && decide (xb = 0)) := hE
  clear hE
  by_cases h1 : xa < 0
  · have f1 : decide (xa < 0) = true := decide_eq_true h1
    have HE : Hid (E = false) := by show _ = _; rw [hE2, decide_eq_false (by omega : ¬ 0 ≤ xa)]; simp
    clear hE2 h1
    go_enter Tryz.func59, Tryz.ntmps59
    go_wp2
    go_ret
    exact ⟨by rw [HE.out]; rfl, HB1.out⟩
  have f1 : decide (xa < 0) = false := decide_eq_false h1
  by_cases h2 : 33 ≤ xa
  · have f2 : decide (33 ≤ xa) = true := decide_eq_true h2
    have HE : Hid (E = false) := by show _ = _; rw [hE2, decide_eq_false (by omega : ¬ xa < 33)]; simp
    clear hE2 h1 h2
    go_enter Tryz.func59, Tryz.ntmps59
    go_wp2
    go_ret
    exact ⟨by rw [HE.out]; rfl, HB1.out⟩
  have f2 : decide (33 ≤ xa) = false := decide_eq_false h2
  by_cases h3 : xb = 0
  · have f3 : (xb == 0) = true := beq_iff_eq.2 h3
    have HE : Hid (E = true) := by show _ = _; rw [hE2, decide_eq_true (by omega : 0 ≤ xa), decide_eq_true (by omega : xa < 33), decide_eq_true h3]; rfl
    clear hE2 h1 h2 h3
    go_enter Tryz.func59, Tryz.ntmps59
    go_wp2
    go_ret
    exact ⟨by rw [HE.out]; rfl, HB1.out⟩
  · have f3 : (xb == 0) = false := beq_eq_false_iff_ne.2 h3
    have HE : Hid (E = false) := by show _ = _; rw [hE2, decide_eq_false h3]; simp
    clear hE2 h1 h2 h3
    go_enter Tryz.func59, Tryz.ntmps59
    go_wp2
    go_ret
    exact ⟨by rw [HE.out]; rfl, HB1.out⟩
set_option maxRecDepth 100000 in
set_option maxHeartbeats 8000000 in
theorem rIns_15 {F : Nat → Prop} (p : Cd.Prog) (c : Cd.Code) (a1 a2 a3 : Option Addr) (c1 c2 c3 bi oi ci : Nat) (j : Nat) (xa xb : Int) (w : World) (hp : Cd.PRep F w p (.slice a1 p.codes.length c1) (.slice a2 p.consts.length c2) (.slice a3 p.names.length c3)) (hl : c.ins.length ≤ 140737488355328) (hj : j < c.ins.length) (hbi : bi < w.heap.size)
    (x0 : w.cell? ⟨bi, oi + j * 3, none⟩ = some (.int .i64 15)) (x1 : w.cell? ⟨bi, oi + j * 3 + 1, none⟩ = some (.int .i64 xa)) (x2 : w.cell? ⟨bi, oi + j * 3 + 2, none⟩ = some (.int .i64 xb)) :
    Calls Tryz.prog 59 #[.agg #[.slice a1 p.codes.length c1, .slice a2 p.consts.length c2, .slice a3 p.names.length c3], .agg #[.int .i64 c.params, .int .i64 c.rest, .int .i64 c.caps, .int .i64 c.max, .slice (some ⟨bi, oi, none⟩) c.ins.length ci], .int .i64 (j : Int)] w fun e w' => e = .returned (.bool (Cd.okIns p c j ⟨15, xa, xb⟩)) ∧ Below w.heap.size w w' := by
  obtain ⟨E, hE⟩ : ∃ E, E = Cd.okIns p c j ⟨15, xa, xb⟩ := ⟨_, rfl⟩
  rw [← hE]
  obtain ⟨w1, hw1⟩ : ∃ w1, ((w.alloc (.cells #[.slice a1 p.codes.length c1, .slice a2 p.consts.length c2, .slice a3 p.names.length c3] 26)).alloc (.cells #[.int .i64 c.params, .int .i64 c.rest, .int .i64 c.caps, .int .i64 c.max, .slice (some ⟨bi, oi, none⟩) c.ins.length ci] 47)).alloc (.cells #[.int .i64 15, .int .i64 xa, .int .i64 xb] 55) = w1 := ⟨_, rfl⟩
  obtain ⟨hb1, hs1, hP, hC, hX⟩ := Cd.boxes3 w _ _ _ _ _ _ hw1
  have p0 := hP 0 _ rfl
  have p1 := hP 1 _ rfl
  have p2 := hP 2 _ rfl
  have q0 := hC 0 _ rfl
  have q2 := hC 2 _ rfl
  have q4 := hC 4 _ rfl
  have z0 := hX 0 _ rfl
  have z1 := hX 1 _ rfl
  have z2 := hX 2 _ rfl
  have HB1 := Lib.hid hb1
  have HP := Lib.hid hp
  have hji : (j : Int) < (c.ins.length : Int) := by omega
  have hj0 : (0 : Int) ≤ (j : Int) := by omega
  have hjb : (j : Int) ≤ 140737488355328 := by omega
  clear hP hC hX hb1 hp hs1
  have hE2 : E = (decide (0 ≤ xa) && decide (xa < 1) && decide (xb = 0)) := hE
  clear hE
  by_cases h1 : xa < 0
  · have f1 : decide (xa < 0) = true := decide_eq_true h1
    have HE : Hid (E = false) := by show _ = _; rw [hE2, decide_eq_false (by omega : ¬ 0 ≤ xa)]; simp
    clear hE2 h1
    go_enter Tryz.func59, Tryz.ntmps59
    go_wp2
    go_ret
    exact ⟨by rw [HE.out]; rfl, HB1.out⟩
  have f1 : decide (xa < 0) = false := decide_eq_false h1
  by_cases h2 : 1 ≤ xa
  · have f2 : decide (1 ≤ xa) = true := decide_eq_true h2
    have HE : Hid (E = false) := by show _ = _; rw [hE2, decide_eq_false (by omega : ¬ xa < 1)]; simp
    clear hE2 h1 h2
    go_enter Tryz.func59, Tryz.ntmps59
    go_wp2
    go_ret
    exact ⟨by rw [HE.out]; rfl, HB1.out⟩
  have f2 : decide (1 ≤ xa) = false := decide_eq_false h2
  by_cases h3 : xb = 0
  · have f3 : (xb == 0) = true := beq_iff_eq.2 h3
    have HE : Hid (E = true) := by show _ = _; rw [hE2, decide_eq_true (by omega : 0 ≤ xa), decide_eq_true (by omega : xa < 1), decide_eq_true h3]; rfl
    clear hE2 h1 h2 h3
    go_enter Tryz.func59, Tryz.ntmps59
    go_wp2
    go_ret
    exact ⟨by rw [HE.out]; rfl, HB1.out⟩
  · have f3 : (xb == 0) = false := beq_eq_false_iff_ne.2 h3
    have HE : Hid (E = false) := by show _ = _; rw [hE2, decide_eq_false h3]; simp
    clear hE2 h1 h2 h3
    go_enter Tryz.func59, Tryz.ntmps59
    go_wp2
    go_ret
    exact ⟨by rw [HE.out]; rfl, HB1.out⟩
set_option maxRecDepth 100000 in
set_option maxHeartbeats 8000000 in
theorem rIns_16 {F : Nat → Prop} (p : Cd.Prog) (c : Cd.Code) (a1 a2 a3 : Option Addr) (c1 c2 c3 bi oi ci : Nat) (j : Nat) (xa xb : Int) (w : World) (hp : Cd.PRep F w p (.slice a1 p.codes.length c1) (.slice a2 p.consts.length c2) (.slice a3 p.names.length c3)) (hl : c.ins.length ≤ 140737488355328) (hj : j < c.ins.length) (hbi : bi < w.heap.size)
    (x0 : w.cell? ⟨bi, oi + j * 3, none⟩ = some (.int .i64 16)) (x1 : w.cell? ⟨bi, oi + j * 3 + 1, none⟩ = some (.int .i64 xa)) (x2 : w.cell? ⟨bi, oi + j * 3 + 2, none⟩ = some (.int .i64 xb)) :
    Calls Tryz.prog 59 #[.agg #[.slice a1 p.codes.length c1, .slice a2 p.consts.length c2, .slice a3 p.names.length c3], .agg #[.int .i64 c.params, .int .i64 c.rest, .int .i64 c.caps, .int .i64 c.max, .slice (some ⟨bi, oi, none⟩) c.ins.length ci], .int .i64 (j : Int)] w fun e w' => e = .returned (.bool (Cd.okIns p c j ⟨16, xa, xb⟩)) ∧ Below w.heap.size w w' := by
  obtain ⟨E, hE⟩ : ∃ E, E = Cd.okIns p c j ⟨16, xa, xb⟩ := ⟨_, rfl⟩
  rw [← hE]
  obtain ⟨w1, hw1⟩ : ∃ w1, ((w.alloc (.cells #[.slice a1 p.codes.length c1, .slice a2 p.consts.length c2, .slice a3 p.names.length c3] 26)).alloc (.cells #[.int .i64 c.params, .int .i64 c.rest, .int .i64 c.caps, .int .i64 c.max, .slice (some ⟨bi, oi, none⟩) c.ins.length ci] 47)).alloc (.cells #[.int .i64 16, .int .i64 xa, .int .i64 xb] 55) = w1 := ⟨_, rfl⟩
  obtain ⟨hb1, hs1, hP, hC, hX⟩ := Cd.boxes3 w _ _ _ _ _ _ hw1
  have p0 := hP 0 _ rfl
  have p1 := hP 1 _ rfl
  have p2 := hP 2 _ rfl
  have q0 := hC 0 _ rfl
  have q2 := hC 2 _ rfl
  have q4 := hC 4 _ rfl
  have z0 := hX 0 _ rfl
  have z1 := hX 1 _ rfl
  have z2 := hX 2 _ rfl
  have HB1 := Lib.hid hb1
  have HP := Lib.hid hp
  have hji : (j : Int) < (c.ins.length : Int) := by omega
  have hj0 : (0 : Int) ≤ (j : Int) := by omega
  have hjb : (j : Int) ≤ 140737488355328 := by omega
  clear hP hC hX hb1 hp hs1
  have hE2 : E = (decide (0 ≤ xa) && decide (xa < 1) && decide (xb = 0)) := hE
  clear hE
  by_cases h1 : xa < 0
  · have f1 : decide (xa < 0) = true := decide_eq_true h1
    have HE : Hid (E = false) := by show _ = _; rw [hE2, decide_eq_false (by omega : ¬ 0 ≤ xa)]; simp
    clear hE2 h1
    go_enter Tryz.func59, Tryz.ntmps59
    go_wp2
    go_ret
    exact ⟨by rw [HE.out]; rfl, HB1.out⟩
  have f1 : decide (xa < 0) = false := decide_eq_false h1
  by_cases h2 : 1 ≤ xa
  · have f2 : decide (1 ≤ xa) = true := decide_eq_true h2
    have HE : Hid (E = false) := by show _ = _; rw [hE2, decide_eq_false (by omega : ¬ xa < 1)]; simp
    clear hE2 h1 h2
    go_enter Tryz.func59, Tryz.ntmps59
    go_wp2
    go_ret
    exact ⟨by rw [HE.out]; rfl, HB1.out⟩
  have f2 : decide (1 ≤ xa) = false := decide_eq_false h2
  by_cases h3 : xb = 0
  · have f3 : (xb == 0) = true := beq_iff_eq.2 h3
    have HE : Hid (E = true) := by show _ = _; rw [hE2, decide_eq_true (by omega : 0 ≤ xa), decide_eq_true (by omega : xa < 1), decide_eq_true h3]; rfl
    clear hE2 h1 h2 h3
    go_enter Tryz.func59, Tryz.ntmps59
    go_wp2
    go_ret
    exact ⟨by rw [HE.out]; rfl, HB1.out⟩
  · have f3 : (xb == 0) = false := beq_eq_false_iff_ne.2 h3
    have HE : Hid (E = false) := by show _ = _; rw [hE2, decide_eq_false h3]; simp
    clear hE2 h1 h2 h3
    go_enter Tryz.func59, Tryz.ntmps59
    go_wp2
    go_ret
    exact ⟨by rw [HE.out]; rfl, HB1.out⟩
set_option maxRecDepth 100000 in
set_option maxHeartbeats 8000000 in
theorem rIns_no {F : Nat → Prop} (p : Cd.Prog) (c : Cd.Code) (a1 a2 a3 : Option Addr) (c1 c2 c3 bi oi ci : Nat) (j : Nat) (o xa xb : Int) (w : World) (hp : Cd.PRep F w p (.slice a1 p.codes.length c1) (.slice a2 p.consts.length c2) (.slice a3 p.names.length c3)) (hl : c.ins.length ≤ 140737488355328) (hj : j < c.ins.length) (hbi : bi < w.heap.size)
    (x0 : w.cell? ⟨bi, oi + j * 3, none⟩ = some (.int .i64 o)) (x1 : w.cell? ⟨bi, oi + j * 3 + 1, none⟩ = some (.int .i64 xa)) (x2 : w.cell? ⟨bi, oi + j * 3 + 2, none⟩ = some (.int .i64 xb)) (ho : o < 1 ∨ 16 < o) :
    Calls Tryz.prog 59 #[.agg #[.slice a1 p.codes.length c1, .slice a2 p.consts.length c2, .slice a3 p.names.length c3], .agg #[.int .i64 c.params, .int .i64 c.rest, .int .i64 c.caps, .int .i64 c.max, .slice (some ⟨bi, oi, none⟩) c.ins.length ci], .int .i64 (j : Int)] w fun e w' => e = .returned (.bool (Cd.okIns p c j ⟨o, xa, xb⟩)) ∧ Below w.heap.size w w' := by
  obtain ⟨E, hE⟩ : ∃ E, E = Cd.okIns p c j ⟨o, xa, xb⟩ := ⟨_, rfl⟩
  rw [← hE]
  obtain ⟨w1, hw1⟩ : ∃ w1, ((w.alloc (.cells #[.slice a1 p.codes.length c1, .slice a2 p.consts.length c2, .slice a3 p.names.length c3] 26)).alloc (.cells #[.int .i64 c.params, .int .i64 c.rest, .int .i64 c.caps, .int .i64 c.max, .slice (some ⟨bi, oi, none⟩) c.ins.length ci] 47)).alloc (.cells #[.int .i64 o, .int .i64 xa, .int .i64 xb] 55) = w1 := ⟨_, rfl⟩
  obtain ⟨hb1, hs1, hP, hC, hX⟩ := Cd.boxes3 w _ _ _ _ _ _ hw1
  have p0 := hP 0 _ rfl
  have p1 := hP 1 _ rfl
  have p2 := hP 2 _ rfl
  have q0 := hC 0 _ rfl
  have q2 := hC 2 _ rfl
  have q4 := hC 4 _ rfl
  have z0 := hX 0 _ rfl
  have z1 := hX 1 _ rfl
  have z2 := hX 2 _ rfl
  have HB1 := Lib.hid hb1
  have HP := Lib.hid hp
  have hji : (j : Int) < (c.ins.length : Int) := by omega
  have hj0 : (0 : Int) ≤ (j : Int) := by omega
  have hjb : (j : Int) ≤ 140737488355328 := by omega
  clear hP hC hX hb1 hp hs1
  have g1 : (o == 1) = false := beq_eq_false_iff_ne.2 (by omega)
  have g2 : (o == 2) = false := beq_eq_false_iff_ne.2 (by omega)
  have g3 : (o == 3) = false := beq_eq_false_iff_ne.2 (by omega)
  have g4 : (o == 4) = false := beq_eq_false_iff_ne.2 (by omega)
  have g5 : (o == 5) = false := beq_eq_false_iff_ne.2 (by omega)
  have g6 : (o == 6) = false := beq_eq_false_iff_ne.2 (by omega)
  have g7 : (o == 7) = false := beq_eq_false_iff_ne.2 (by omega)
  have g8 : (o == 8) = false := beq_eq_false_iff_ne.2 (by omega)
  have g9 : (o == 9) = false := beq_eq_false_iff_ne.2 (by omega)
  have g10 : (o == 10) = false := beq_eq_false_iff_ne.2 (by omega)
  have g11 : (o == 11) = false := beq_eq_false_iff_ne.2 (by omega)
  have g12 : (o == 12) = false := beq_eq_false_iff_ne.2 (by omega)
  have g13 : (o == 13) = false := beq_eq_false_iff_ne.2 (by omega)
  have g14 : (o == 14) = false := beq_eq_false_iff_ne.2 (by omega)
  have g15 : (o == 15) = false := beq_eq_false_iff_ne.2 (by omega)
  have g16 : (o == 16) = false := beq_eq_false_iff_ne.2 (by omega)
  have HE : Hid (E = false) := by
    show _ = _
    rw [hE]
    unfold Cd.okIns
    rw [show Cd.opT (Cd.Ins.mk o xa xb).o = none from Cd.op_out ho]
    rfl
  clear hE ho
  by_cases h1 : xa < 0
  · have f1 : decide (xa < 0) = true := decide_eq_true h1
    clear h1
    go_enter Tryz.func59, Tryz.ntmps59
    go_wp2
    go_ret
    exact ⟨by rw [HE.out]; rfl, HB1.out⟩
  have f1 : decide (xa < 0) = false := decide_eq_false h1
  have f2 : decide (0 ≤ xa) = true := decide_eq_true (by omega)
  clear h1
  go_enter Tryz.func59, Tryz.ntmps59
  go_wp2
  go_ret
  exact ⟨by rw [HE.out]; rfl, HB1.out⟩
theorem rIns_any {F : Nat → Prop} (p : Cd.Prog) (c : Cd.Code) (vc vk vn vi : Value) (j : Nat) (w : World) (hp : Cd.PRep F w p vc vk vn) (hi : Cd.InsRow F w vi c.ins) (hl : c.ins.length ≤ 140737488355328) (hj : j < c.ins.length) :
    Calls Tryz.prog 59 #[.agg #[vc, vk, vn], .agg #[.int .i64 c.params, .int .i64 c.rest, .int .i64 c.caps, .int .i64 c.max, vi], .int .i64 (j : Int)] w fun e w' => e = .returned (.bool (Cd.okIns p c j c.ins[j])) ∧ Below w.heap.size w w' := by
  obtain ⟨a1, c1, a2, c2, a3, c3, rfl, rfl, rfl⟩ := hp.forms
  obtain ⟨ai, ci, rfl⟩ := hi.form
  obtain ⟨bi, oi, rfl, hbi, x0, x1, x2⟩ := Cd.ins_at hi j hj
  obtain ⟨⟨o, xa, xb⟩, hx⟩ : ∃ x, x = c.ins[j] := ⟨_, rfl⟩
  rw [← hx] at x0 x1 x2 ⊢
  clear hx hi
  rcases Cd.op_cases o with h | rfl | rfl | rfl | rfl | rfl | rfl | rfl | rfl | rfl | rfl | rfl | rfl | rfl | rfl | rfl | rfl
  · exact rIns_no p c a1 a2 a3 c1 c2 c3 bi oi ci j o xa xb w hp hl hj hbi x0 x1 x2 h
  · exact rIns_1 p c a1 a2 a3 c1 c2 c3 bi oi ci j xa xb w hp hl hj hbi x0 x1 x2
  · exact rIns_2 p c a1 a2 a3 c1 c2 c3 bi oi ci j xa xb w hp hl hj hbi x0 x1 x2
  · exact rIns_3 p c a1 a2 a3 c1 c2 c3 bi oi ci j xa xb w hp hl hj hbi x0 x1 x2
  · exact rIns_4 p c a1 a2 a3 c1 c2 c3 bi oi ci j xa xb w hp hl hj hbi x0 x1 x2
  · exact rIns_5 p c a1 a2 a3 c1 c2 c3 bi oi ci j xa xb w hp hl hj hbi x0 x1 x2
  · exact rIns_6 p c a1 a2 a3 c1 c2 c3 bi oi ci j xa xb w hp hl hj hbi x0 x1 x2
  · exact rIns_7 p c a1 a2 a3 c1 c2 c3 bi oi ci j xa xb w hp hl hj hbi x0 x1 x2
  · exact rIns_8 p c a1 a2 a3 c1 c2 c3 bi oi ci j xa xb w hp hl hj hbi x0 x1 x2
  · exact rIns_9 p c a1 a2 a3 c1 c2 c3 bi oi ci j xa xb w hp hl hj hbi x0 x1 x2
  · exact rIns_10 p c a1 a2 a3 c1 c2 c3 bi oi ci j xa xb w hp hl hj hbi x0 x1 x2
  · exact rIns_11 p c a1 a2 a3 c1 c2 c3 bi oi ci j xa xb w hp hl hj hbi x0 x1 x2
  · exact rIns_12 p c a1 a2 a3 c1 c2 c3 bi oi ci j xa xb w hp hl hj hbi x0 x1 x2
  · exact rIns_13 p c a1 a2 a3 c1 c2 c3 bi oi ci j xa xb w hp hl hj hbi x0 x1 x2
  · exact rIns_14 p c a1 a2 a3 c1 c2 c3 bi oi ci j xa xb w hp hl hj hbi x0 x1 x2
  · exact rIns_15 p c a1 a2 a3 c1 c2 c3 bi oi ci j xa xb w hp hl hj hbi x0 x1 x2
  · exact rIns_16 p c a1 a2 a3 c1 c2 c3 bi oi ci j xa xb w hp hl hj hbi x0 x1 x2
end Go.Proofs.YtlckjphnbfahgaaGreatDoor
namespace Go.Proofs.YtlckjphnbfahgaaGreatDoor
open Go.RowKit
attribute [local go_sem] Oper.semAt_some
namespace Cd
def reachAll : List Int → List Int → Int → Option (List Int)
  | ah, [], _ => some ah
  | ah, t :: r, n => match reach ah t n with
    | none => none
    | some ah1 => reachAll ah1 r n
/-- the places that an instruction goes on to -/
def goes (x : Ins) (j : Nat) : List Int := (if x.o ≠ 10 then [(j : Int) + 1] else []) ++ (if (op x.o).a = 5 then [x.a] else [])
def okAt (ah : List Int) (a : Nat) (n : Int) : Prop := a < ah.length ∧ ¬ (0 ≤ g ah a ∧ g ah a ≠ n)
theorem reach_ok {ah : List Int} {a : Nat} {n : Int} (h : okAt ah a n) : reach ah (a : Int) n = some (ah.set a n) := by
  unfold reach
  rw [Int.toNat_natCast, if_neg (by have := h.1; omega), if_neg h.2]
theorem reach_bad {ah : List Int} {a : Nat} {n : Int} (h : ¬ okAt ah a n) : reach ah (a : Int) n = none := by
  unfold reach
  rw [Int.toNat_natCast]
  by_cases h1 : (ah.length : Int) ≤ (a : Int)
  · rw [if_pos h1]
  · rw [if_neg h1, if_pos]
    apply Classical.byContradiction
    intro h2
    exact h ⟨by omega, h2⟩
theorem okAt_set {ah : List Int} {a b : Nat} {n : Int} (h : okAt ah a n) : okAt (ah.set a n) b n ↔ okAt ah b n := by
  unfold okAt
  rw [List.length_set, g_set h.1]
  by_cases e : b = a
  · subst e
    rw [if_pos rfl]
    exact ⟨fun _ => h, fun _ => ⟨h.1, fun h2 => h2.2 rfl⟩⟩
  · rw [if_neg e]
theorem reach_two {ah : List Int} {a b : Nat} {n : Int} : (match reach ah (a : Int) n with
    | none => none
    | some h1 => reach h1 (b : Int) n) = (match reach ah (b : Int) n with
    | none => none
    | some h1 => reach h1 (a : Int) n) := by
  by_cases ha : okAt ah a n
  · by_cases hb : okAt ah b n
    · rw [reach_ok ha, reach_ok hb]
      simp only
      rw [reach_ok ((okAt_set ha).2 hb), reach_ok ((okAt_set hb).2 ha)]
      by_cases e : a = b
      · rw [e]
      · rw [List.set_comm _ _ e]
    · rw [reach_ok ha, reach_bad hb]
      simp only
      rw [reach_bad (fun h => hb ((okAt_set ha).1 h))]
  · by_cases hb : okAt ah b n
    · rw [reach_bad ha, reach_ok hb]
      simp only
      rw [reach_bad (fun h => ha ((okAt_set hb).1 h))]
    · rw [reach_bad ha, reach_bad hb]
theorem stepW_goes {x : Ins} {j : Nat} {ah : List Int} (h : (op x.o).a = 5 → 0 ≤ x.a) (h10 : x.o = 10 → (op x.o).a = 5) : stepW x j ah = reachAll ah (goes x j) (w64 (g ah j + w64 ((op x.o).leaves - needW x))) := by
  unfold stepW goes
  simp only
  generalize w64 (g ah j + w64 ((op x.o).leaves - needW x)) = n
  by_cases h5 : (op x.o).a = 5
  · have ha := h h5
    obtain ⟨a, ea⟩ : ∃ a : Nat, x.a = (a : Int) := ⟨x.a.toNat, by omega⟩
    rw [if_pos h5, if_pos h5, ea]
    by_cases e : x.o = 10
    · rw [if_neg (fun h => h e)]
      simp only [List.nil_append, reachAll]
      cases reach ah (a : Int) n with
      | none => rfl
      | some h1 => simp only [e, ne_eq, not_true_eq_false, if_false]
    · rw [if_pos e]
      simp only [List.cons_append, List.nil_append, reachAll, e, ne_eq, not_false_eq_true, if_true]
      have h2 := reach_two (ah := ah) (a := a) (b := j + 1) (n := n)
      rw [show (((j + 1 : Nat)) : Int) = (j : Int) + 1 by omega] at h2
      refine Eq.trans h2 ?_
      cases reach ah ((j : Int) + 1) n with
      | none => rfl
      | some h1 =>
        simp only
        cases hq : reach h1 (a : Int) n with
        | none => rfl
        | some v => rfl
  · have e : x.o ≠ 10 := fun e => h5 (h10 e)
    rw [if_neg h5, if_neg h5, if_pos e]
    show (if x.o ≠ 10 then reach ah ((j : Int) + 1) n else some ah) = _
    rw [if_pos e]
    simp only [List.append_nil, reachAll]
    cases reach ah ((j : Int) + 1) n <;> rfl
theorem num_two (v N L : Int) : w64 (w64 (v - N) + L) = w64 (v + w64 (L - N)) := by
  unfold w64 RowKit.wrap64
  omega
end Cd
set_option maxRecDepth 100000 in
theorem needs09_12g (a b : Int) (w : World) : Calls Tryz.prog 73 #[.agg #[.int .i64 12, .int .i64 a, .int .i64 b]] w fun e w' => e = .returned (.tuple #[.int .i64 b, .int .i64 1]) ∧ Below w.heap.size w w' := by
  have HB : Hid (Below w.heap.size w (w.alloc (.cells #[.int .i64 12, .int .i64 a, .int .i64 b] 55))) := (Below.refl _ w).alloc (Nat.le_refl _) _
  go_enter Tryz.func73, Tryz.ntmps73
  go_wp2
  go_ret2
  exact ⟨rfl, HB.out⟩
theorem needs09_gen {p : Cd.Prog} {c : Cd.Code} {j : Nat} (x : Cd.Ins) (h : Cd.OkIns p c j x) (hb : -9223372036854775808 ≤ x.b ∧ x.b ≤ 9223372036854775807) (w : World) : Calls Tryz.prog 73 #[.agg #[.int .i64 x.o, .int .i64 x.a, .int .i64 x.b]] w fun e w' => e = .returned (.tuple #[.int .i64 (Cd.needW x), .int .i64 (Cd.op x.o).leaves]) ∧ Below w.heap.size w w' := by
  have ha : (Cd.op x.o).pa = true → 0 ≤ x.a ∧ x.a ≤ 32 := fun e => by
    have h1 := h.lo
    have h2 := h.hi
    rw [Cd.op_pa _ e] at h1 h2
    have h3 : (0 : Int) ≤ x.a := h1
    have h4 : x.a < 33 := h2
    omega
  obtain ⟨o, a, b⟩ := x
  have h0 := h.some
  clear h
  simp only at h0 ha hb
  rcases Cd.op_cases o with h1 | rfl | rfl | rfl | rfl | rfl | rfl | rfl | rfl | rfl | rfl | rfl | rfl | rfl | rfl | rfl | rfl
  · omega
  · have e1 : Cd.needW ⟨1, a, b⟩ = 0 := rfl
    have e2 : (Cd.op 1).leaves = 1 := rfl
    rw [e1]
    show Calls _ _ _ _ fun e w' => e = .returned (.tuple #[_, .int .i64 (Cd.op 1).leaves]) ∧ _
    rw [e2]
    exact needs09_1 a b w
  · have e1 : Cd.needW ⟨2, a, b⟩ = 0 := rfl
    have e2 : (Cd.op 2).leaves = 1 := rfl
    rw [e1]
    show Calls _ _ _ _ fun e w' => e = .returned (.tuple #[_, .int .i64 (Cd.op 2).leaves]) ∧ _
    rw [e2]
    exact needs09_2 a b w
  · have e1 : Cd.needW ⟨3, a, b⟩ = 0 := rfl
    have e2 : (Cd.op 3).leaves = 1 := rfl
    rw [e1]
    show Calls _ _ _ _ fun e w' => e = .returned (.tuple #[_, .int .i64 (Cd.op 3).leaves]) ∧ _
    rw [e2]
    exact needs09_3 a b w
  · have e1 : Cd.needW ⟨4, a, b⟩ = 0 := rfl
    have e2 : (Cd.op 4).leaves = 1 := rfl
    rw [e1]
    show Calls _ _ _ _ fun e w' => e = .returned (.tuple #[_, .int .i64 (Cd.op 4).leaves]) ∧ _
    rw [e2]
    exact needs09_4 a b w
  · have e1 : Cd.needW ⟨5, a, b⟩ = 0 := rfl
    have e2 : (Cd.op 5).leaves = 0 := rfl
    rw [e1]
    show Calls _ _ _ _ fun e w' => e = .returned (.tuple #[_, .int .i64 (Cd.op 5).leaves]) ∧ _
    rw [e2]
    exact needs09_5 a b w
  · have e1 : Cd.needW ⟨6, a, b⟩ = 1 := rfl
    have e2 : (Cd.op 6).leaves = 1 := rfl
    rw [e1]
    show Calls _ _ _ _ fun e w' => e = .returned (.tuple #[_, .int .i64 (Cd.op 6).leaves]) ∧ _
    rw [e2]
    exact needs09_6 a b w
  · have e1 : Cd.needW ⟨7, a, b⟩ = 2 := rfl
    have e2 : (Cd.op 7).leaves = 1 := rfl
    rw [e1]
    show Calls _ _ _ _ fun e w' => e = .returned (.tuple #[_, .int .i64 (Cd.op 7).leaves]) ∧ _
    rw [e2]
    exact needs09_7 a b w
  · have e1 : Cd.needW ⟨8, a, b⟩ = 1 := rfl
    have e2 : (Cd.op 8).leaves = 1 := rfl
    rw [e1]
    show Calls _ _ _ _ fun e w' => e = .returned (.tuple #[_, .int .i64 (Cd.op 8).leaves]) ∧ _
    rw [e2]
    exact needs09_8 a b w
  · have e1 : Cd.needW ⟨9, a, b⟩ = 1 := rfl
    have e2 : (Cd.op 9).leaves = 1 := rfl
    rw [e1]
    show Calls _ _ _ _ fun e w' => e = .returned (.tuple #[_, .int .i64 (Cd.op 9).leaves]) ∧ _
    rw [e2]
    exact needs09_9 a b w
  · have e1 : Cd.needW ⟨10, a, b⟩ = 0 := rfl
    have e2 : (Cd.op 10).leaves = 0 := rfl
    rw [e1]
    show Calls _ _ _ _ fun e w' => e = .returned (.tuple #[_, .int .i64 (Cd.op 10).leaves]) ∧ _
    rw [e2]
    exact needs09_10 a b w
  · have e1 : Cd.needW ⟨11, a, b⟩ = 1 := rfl
    have e2 : (Cd.op 11).leaves = 0 := rfl
    rw [e1]
    show Calls _ _ _ _ fun e w' => e = .returned (.tuple #[_, .int .i64 (Cd.op 11).leaves]) ∧ _
    rw [e2]
    exact needs09_11 a b w
  · have e1 : Cd.needW ⟨12, a, b⟩ = b := by show Cd.w64 (0 + b) = b; unfold Cd.w64 RowKit.wrap64; omega
    have e2 : (Cd.op 12).leaves = 1 := rfl
    rw [e1]
    show Calls _ _ _ _ fun e w' => e = .returned (.tuple #[_, .int .i64 (Cd.op 12).leaves]) ∧ _
    rw [e2]
    exact needs09_12g a b w
  · have e1 : Cd.needW ⟨13, a, b⟩ = a + 1 := by have h3 := ha rfl; show Cd.w64 (1 + a) = a + 1; unfold Cd.w64 RowKit.wrap64; omega
    have e2 : (Cd.op 13).leaves = 1 := rfl
    rw [e1]
    show Calls _ _ _ _ fun e w' => e = .returned (.tuple #[_, .int .i64 (Cd.op 13).leaves]) ∧ _
    rw [e2]
    exact needs09_13 a b (ha rfl) w
  · have e1 : Cd.needW ⟨14, a, b⟩ = a + 1 := by have h3 := ha rfl; show Cd.w64 (1 + a) = a + 1; unfold Cd.w64 RowKit.wrap64; omega
    have e2 : (Cd.op 14).leaves = 0 := rfl
    rw [e1]
    show Calls _ _ _ _ fun e w' => e = .returned (.tuple #[_, .int .i64 (Cd.op 14).leaves]) ∧ _
    rw [e2]
    exact needs09_14 a b (ha rfl) w
  · have e1 : Cd.needW ⟨15, a, b⟩ = 1 := rfl
    have e2 : (Cd.op 15).leaves = 0 := rfl
    rw [e1]
    show Calls _ _ _ _ fun e w' => e = .returned (.tuple #[_, .int .i64 (Cd.op 15).leaves]) ∧ _
    rw [e2]
    exact needs09_15 a b w
  · have e1 : Cd.needW ⟨16, a, b⟩ = 1 := rfl
    have e2 : (Cd.op 16).leaves = 0 := rfl
    rw [e1]
    show Calls _ _ _ _ fun e w' => e = .returned (.tuple #[_, .int .i64 (Cd.op 16).leaves]) ∧ _
    rw [e2]
    exact needs09_16 a b w
end Go.Proofs.YtlckjphnbfahgaaGreatDoor
namespace Go.Proofs.YtlckjphnbfahgaaGreatDoor
open Go.RowKit
attribute [local go_sem] Oper.semAt_some
namespace Cd
/-- numbers in a block -/
def RowI (w : World) (G : Nat) (L : List Int) : Prop := w.heap[G]? = some (.cells (L.map (Value.int .i64)).toArray 3 (0, 0))
theorem RowI.lt {w : World} {G : Nat} {L : List Int} (h : RowI w G L) : G < w.heap.size := (Array.getElem?_eq_some_iff.1 h).1
theorem RowI.at {w : World} {G : Nat} {L : List Int} (h : RowI w G L) (i : Nat) (hi : i < L.length) : w.cell? ⟨G, i, none⟩ = some (.int .i64 (g L i)) ∧ w.frozen? ⟨G, i, none⟩ = false := by
  refine ⟨?_, Lib.frozen_of_heap h i⟩
  rw [hcell h]
  unfold g
  rw [List.getD_eq_getElem?_getD]
  simp [hi]
theorem RowI.set {w : World} {G : Nat} {L : List Int} (h : RowI w G L) (i : Nat) (x : Int) : RowI (w.setCell ⟨G, i, none⟩ (.int .i64 x)) G (L.set i x) := by
  have := hset (i := i) (v := .int .i64 x) h
  unfold RowI
  rw [this]
  congr 2
  simp [List.map_set]
theorem RowI.keep {S : Nat → Prop} {w w' : World} {G : Nat} {L : List Int} (h : RowI w G L) (hk : Keep S w w') (hS : ¬ S G) : RowI w' G L := (hk.block G h.lt hS).trans h
theorem RowI.below {w w' : World} {G : Nat} {L : List Int} (h : RowI w G L) (hb : Below w.heap.size w w') : RowI w' G L := (hb.block G h.lt).trans h
theorem RowI.own {w : World} {base G n : Nat} {L : List Int} (h : RowI w G L) (hL : L.length = n) (hb : base ≤ G) (hn : n ≤ maxLen) : w.ownsRow base 3 1 (.slice (some ⟨G, 0, none⟩) n n) n (L.map (Value.int .i64)) :=
  ⟨by simp [hL], .inr ⟨G, n, _, rfl, hb, h, Nat.le_refl _, hn, by simp [hL], by simp [List.take_of_length_le, hL]⟩⟩
def preL (n i : Nat) : List Int := start i ++ List.replicate (n - i) 0
theorem start_len (i : Nat) : (start i).length = i := by unfold start; simp
theorem preL_len {n i : Nat} (h : i ≤ n) : (preL n i).length = n := by unfold preL; rw [List.length_append, start_len, List.length_replicate]; omega
theorem start_succ {i : Nat} (h : 1 ≤ i) : start (i + 1) = start i ++ [-1] := by
  unfold start
  rw [List.replicate_succ', List.set_append_left _ _ (by rw [List.length_replicate]; exact h)]
theorem preL_set {n i : Nat} (h : 1 ≤ i) (h2 : i < n) : (preL n i).set i (-1) = preL n (i + 1) := by
  unfold preL
  rw [List.set_append_right _ _ (by rw [start_len]; exact Nat.le_refl _), start_len, Nat.sub_self, start_succ h, show n - i = (n - (i + 1)) + 1 by omega, List.replicate_succ]
  simp
theorem preL_end (n : Nat) : preL n n = start n := by unfold preL; simp
end Cd
set_option maxRecDepth 100000 in
set_option maxHeartbeats 16000000 in
theorem rdepths_any {F : Nat → Prop} {p : Cd.Prog} (c : Cd.Code) (vi : Value) (w : World) (hi : Cd.InsRow F w vi c.ins) (hl1 : 1 ≤ c.ins.length) (hl2 : c.ins.length ≤ 4096) (hok : ∀ j, (h : j < c.ins.length) → Cd.OkIns p c j c.ins[j]) (hwf : ∀ x ∈ c.ins, Cd.I64 x.o ∧ Cd.I64 x.a ∧ Cd.I64 x.b) :
    Calls Tryz.prog 60 #[.agg #[.int .i64 c.params, .int .i64 c.rest, .int .i64 c.caps, .int .i64 c.max, vi]] w fun e w' => Cd.FlowPost w c.ins.length (Cd.flowW c.ins 0 (Cd.start c.ins.length) 0) e w' := by
  obtain ⟨a, cl, rfl⟩ := hi.form
  obtain ⟨n, hn⟩ : ∃ n, c.ins.length = n := ⟨_, rfl⟩
  obtain ⟨l, hl⟩ : ∃ l, c.ins = l := ⟨_, rfl⟩
  obtain ⟨R, hR⟩ : ∃ R, R = Cd.flowW l 0 (Cd.start n) 0 := ⟨_, rfl⟩
  have HOK0 := Lib.hid hok
  have HWF0 := Lib.hid hwf
  have HI0 := Lib.hid hi
  clear hok hwf hi
  have HOK : Hid (∀ j, (h : j < l.length) → Cd.OkIns p c j l[j]) := by subst hl; exact HOK0.out
  have HWF : Hid (∀ x ∈ l, Cd.I64 x.o ∧ Cd.I64 x.a ∧ Cd.I64 x.b) := by subst hl; exact HWF0.out
  have HI : Hid (Cd.InsRow F w (.slice a n cl) l) := by subst hl; rw [← hn]; exact HI0.out
  have HN : Hid (l.length = n) := by subst hl; exact hn
  clear HOK0 HWF0 HI0
  rw [hn] at hl1 hl2 ⊢
  rw [hl, ← hR]
  have HRR := Lib.hid hR
  clear hR
  obtain ⟨w1, hw1⟩ : ∃ w1, w.alloc (.cells #[.int .i64 c.params, .int .i64 c.rest, .int .i64 c.caps, .int .i64 c.max, .slice a n cl] 47) = w1 := ⟨_, rfl⟩
  obtain ⟨hb1, hs1, hbc⟩ := Cd.boxC hw1
  obtain ⟨q0, q1, q2, q3, q4⟩ := hbc w1 (Below.refl _ _)
  obtain ⟨i0, hinf, hz0, hz1, hz2⟩ := info_parts Cd.infoI
  have hmk := run_makeSlice (P := Tryz.prog) (w := w1) 42 3 i0 _ Tryz.underlying42 hinf hz0 .i64 .i64 n n (by omega) (Int.le_refl _) (by rw [hz1]; simp; omega) (by rw [hz2]; omega) (by omega)
  have hzs : madeCells (Value.int .i64 0).cells ((n : Int).toNat * i0.size) = ((List.replicate n (0 : Int)).map (Value.int .i64)).toArray := by
    rw [hz1, Int.toNat_natCast, Nat.mul_one]
    apply Array.ext'
    rw [show (Value.int .i64 0).cells = #[.int .i64 0] from rfl, toList_madeCells_one]
    simp
  rw [hzs] at hmk
  obtain ⟨w2, hw2⟩ : ∃ w2, w1.alloc (.cells ((List.replicate n (0 : Int)).map (Value.int .i64)).toArray 3) = w2 := ⟨_, rfl⟩
  obtain ⟨hb2, hs2⟩ := Cd.below_new (Below.refl _ w1) hw2 (Nat.le_refl _)
  have hG := Cd.box_heap hw2
  rw [hw2, Int.toNat_natCast] at hmk
  have HB2 : Hid (Below w.heap.size w w2) := hb1.trans (hb2.mono hb1.size)
  have HBC : Hid (∀ W, Below w1.heap.size w1 W → W.cell? ⟨w.heap.size, 4, none⟩ = some (.slice a n cl)) := fun W hW => (hbc W hW).2.2.2.2
  obtain ⟨G, hGe⟩ : ∃ G, w1.heap.size = G := ⟨_, rfl⟩
  rw [hGe] at hG hmk hb2
  have HB12 := Lib.hid hb2
  have HS : Hid (G = w.heap.size + 1) := by show _ = _; omega
  have HG0 : Hid (Cd.RowI w2 G (Cd.preL n 1)) := by
    show w2.heap[G]? = _
    rw [hG]
    congr 4
    unfold Cd.preL
    rw [show Cd.start 1 = [0] from rfl, show n = (n - 1) + 1 by omega, List.replicate_succ]
    simp
  have HI1 := Lib.hid hinf
  have HZ0 := Lib.hid hz0
  have HZ1 := Lib.hid hz1
  have HZ2 := Lib.hid hz2
  have HGE := Lib.hid hGe
  clear hb1 hs1 hbc hzs hb2 hs2 hG hinf hz0 hz1 hz2
  go_enter Tryz.func60, Tryz.ntmps60
  go_wp2
  clear hmk hw1 hw2 hGe q0 q1 q2 q3 q4
  go_loopw [6] (fun v wr => ∃ k : Nat, v = .int .i64 k ∧ 1 ≤ k ∧ k ≤ n ∧ Hid (Cd.RowI wr G (Cd.preL n k)) ∧ Hid (Below G w2 wr)) (fun v _ => n - (intOf v).toNat)
  case atStart => exact ⟨1, rfl, by omega, by omega, HG0, Below.refl _ _⟩
  case round =>
    clear HG0
    obtain ⟨k, rfl, hk1, hk, HG, HBR⟩ := hrel
    by_cases hlt : k < n
    · have hlti : (k : Int) < (n : Int) := by omega
      have hk0 : (0 : Int) ≤ (k : Int) := by omega
      obtain ⟨gk, fk⟩ := HG.out.at k (by rw [Cd.preL_len hk]; exact hlt)
      have hset := HG.out.set k (-1)
      rw [Cd.preL_set hk1 hlt] at hset
      have HSET := Lib.hid hset
      have HBS : Hid (Below G w2 (wr.setCell ⟨G, k, none⟩ (.int .i64 (-1)))) := HBR.out.trans (((Keep.refl (fun j => j = G) wr).setCell rfl k _).to_below (fun j e => by omega) (by have := HG.out.lt; omega))
      clear hset
      go_wp2
      go_roundw
      case rel => exact ⟨k + 1, by simp, by omega, by omega, HSET, HBS⟩
      case measure => simp [intOf]; omega
    · obtain rfl : k = n := by omega
      have hge : ((k : Int) < (k : Int)) = False := eq_false (by omega)
      have HG1 : Hid (Cd.RowI wr G (Cd.start k)) := by
        have := HG.out
        rw [Cd.preL_end] at this
        exact this
      have HR0 : Hid (R = Cd.flowW (l.drop 0) 0 (Cd.start k) 0) := by show _ = _; rw [List.drop_zero]; exact HRR.out
      have HB0 : Hid (Below w.heap.size w wr) := HB2.out.trans (HBR.out.mono (by have := HS.out; omega))
      have HB1 : Hid (Below w1.heap.size w1 wr) := by
        have h1 := HB12.out.trans HBR.out
        rw [HGE.out]
        exact h1
      obtain ⟨m, hm⟩ : ∃ m, m = k := ⟨_, rfl⟩
      subst hm
      clear hlt hk hk1 HG HBR HRR
      go_wp2
      clear hge
      go_loopw [7, 8] (fun vm vi wr => ∃ (k : Nat) (most : Int) (L : List Int), vm = .int .i64 most ∧ vi = .int .i64 k ∧ k ≤ m ∧ L.length = m ∧ Hid (R = Cd.flowW (l.drop k) k L most) ∧ Hid (Cd.RowI wr G L) ∧ Hid (Below w.heap.size w wr) ∧ Hid (Below w1.heap.size w1 wr)) (fun _ vi _ => m - (intOf vi).toNat)
      case atStart => exact ⟨0, 0, Cd.start m, rfl, rfl, by omega, Cd.start_len m, HR0, HG1, HB0, HB1⟩
      case round =>
        clear HR0 HG1 HB0 HB1
        obtain ⟨k, most, L, rfl, rfl, hk, hL, HR, HGL, HB, HB1⟩ := hrel
        by_cases hlt : k < m
        · have hlti : (k : Int) < (m : Int) := by omega
          have hk0 : (0 : Int) ≤ (k : Int) := by omega
          have hkl : k < l.length := by rw [HN.out]; exact hlt
          obtain ⟨b, o, rfl, -, x0, x1, x2⟩ := Cd.ins_at (HI.out.below HB.out) k hkl
          have hr := HR.out
          rw [List.drop_eq_getElem_cons hkl] at hr
          have hokx := HOK.out k hkl
          have hwfx := HWF.out l[k] (List.getElem_mem hkl)
          obtain ⟨x, hx⟩ : ∃ x, l[k] = x := ⟨_, rfl⟩
          rw [hx] at x0 x1 x2 hr hokx hwfx
          rw [Cd.flowW] at hr
          have h10 : x.o = 10 → (Cd.op x.o).a = 5 := fun e => by rw [e]; rfl
          have hpx : (Cd.op x.o).a = 5 → 0 ≤ x.a := fun e => by
            have h4 := hokx.lo
            rw [e] at h4
            have h5 : (k : Int) + 1 ≤ x.a := h4
            omega
          rw [Cd.stepW_goes hpx h10] at hr
          obtain ⟨gk, -⟩ := HGL.out.at k (by omega)
          obtain ⟨v, hv⟩ : ∃ v, Cd.g L k = v := ⟨_, rfl⟩
          rw [hv] at hr gk
          have q4 := HBC.out wr HB1.out
          obtain ⟨r1, hr1⟩ : ∃ r1, wr.alloc (.cells #[.int .i64 x.o, .int .i64 x.a, .int .i64 x.b] 55) = r1 := ⟨_, rfl⟩
          obtain ⟨hb1, hs1⟩ := Cd.below_new (Below.refl _ wr) hr1 (Nat.le_refl _)
          have hX := Cd.InsAt.new hr1
          obtain ⟨z0, z1, z2⟩ := hX
          have hnd := needs09_gen x hokx hwfx.2.2 r1
          have HEN := Lib.hid (Cd.leaves_eq hokx.some)
          have HJ := Lib.hid (Cd.jumps_eq hokx.some)
          have HPX := Lib.hid hpx
          obtain ⟨N, hN⟩ : ∃ N, Cd.needW x = N := ⟨_, rfl⟩
          obtain ⟨Lv, hLv⟩ : ∃ Lv, (Cd.op x.o).leaves = Lv := ⟨_, rfl⟩
          rw [hN, hLv] at hr hnd
          have HRX0 := Lib.hid hr
          have HG1R := Lib.hid (HGL.out.below hb1)
          have HB01 : Hid (Below w.heap.size w r1) := HB.out.trans (hb1.mono HB.out.size)
          have HB11 : Hid (Below w1.heap.size w1 r1) := HB1.out.trans (hb1.mono HB1.out.size)
          obtain ⟨b9, hb9⟩ : ∃ b9, wr.heap.size = b9 := ⟨_, rfl⟩
          rw [hb9] at z0 z1 z2
          have HX1 : Hid (Cd.InsAt r1 b9 x) := ⟨z0, z1, z2⟩
          have HVV := Lib.hid hv
          clear hr hokx hwfx hpx h10 hx hv hb1 hs1 hN hLv HR HGL HB HB1
          go_upto_region 12 with (go_at_call 73; refine hnd.mono ?_; clear hnd hr1 x0 x1 x2 z0 z1 z2 gk q4 hb9; rintro e r4 ⟨rfl, hb4⟩; have HX4 : Hid (Cd.InsAt r4 b9 x) := HX1.out.keep ((Keep.refl (fun _ => False) r1).below hb4) id; obtain ⟨y0, y1, -⟩ := HX4.out; have HG4 := Lib.hid (HG1R.out.below hb4); obtain ⟨gk, -⟩ := HG4.out.at k (by omega); rw [HVV.out] at gk; have HBN : Hid (Below w.heap.size w r4) := HB01.out.trans (hb4.mono HB01.out.size); have HB14 : Hid (Below w1.heap.size w1 r4) := HB11.out.trans (hb4.mono HB11.out.size); have HX4L : Hid (b9 < r4.heap.size) := block_lt_of_cell y0; clear hb4)
          clear HX1 HG1R HB01 HB11
          by_cases c1 : v < N
          · have c1' : decide (v < N) = true := decide_eq_true c1
            have HE : Hid (R = none) := by show _ = _; rw [HRX0.out, if_pos (.inl c1)]
            clear HRX0 c1
            go_wp2
            go_ret3
            show Cd.FlowPost _ _ R _ _
            rw [HE.out]
            exact ⟨rfl, HBN.out⟩
          have c1' : decide (v < N) = false := decide_eq_false c1
          obtain ⟨M1, hM1⟩ : ∃ M1, max most v = M1 := ⟨_, rfl⟩
          rw [hM1] at HRX0
          by_cases een : x.o = 14 ∨ x.o = 15
          · have hen := HEN.out.2 een
            have hem : ((x.o == 14) || (x.o == 15)) = true := by rcases een with e | e <;> rw [e] <;> rfl
            by_cases c2 : v = N
            · have c2' : (v != N) = false := bne_eq_false_iff_eq.2 c2
              have HE : Hid (R = Cd.flowW (l.drop (k + 1)) (k + 1) L M1) := by show _ = _; rw [HRX0.out, if_neg (fun h => h.elim c1 (fun h => by omega)), if_pos hen]
              clear HRX0 c1 c2 hen
              rcases een with e14 | e15
              · have f14 : (x.o == 14) = true := beq_iff_eq.2 e14
                clear e14 hem
                go_wp2
                go_roundw
                case rel => exact ⟨k + 1, M1, L, rfl, by simp, by omega, hL, HE, HG4, HBN, HB14⟩
                case measure => simp [intOf]; omega
              · have f14 : (x.o == 14) = false := beq_eq_false_iff_ne.2 (by omega)
                have f15 : (x.o == 15) = true := beq_iff_eq.2 e15
                clear e15 hem
                go_wp2
                go_roundw
                case rel => exact ⟨k + 1, M1, L, rfl, by simp, by omega, hL, HE, HG4, HBN, HB14⟩
                case measure => simp [intOf]; omega
            · have c2' : (v != N) = true := bne_iff_ne.2 c2
              have HE : Hid (R = none) := by show _ = _; rw [HRX0.out, if_pos (.inr ⟨hen, by omega⟩)]
              clear HRX0 c1 c2 hen
              rcases een with e14 | e15
              · have f14 : (x.o == 14) = true := beq_iff_eq.2 e14
                clear e14 hem
                go_wp2
                go_ret3
                show Cd.FlowPost _ _ R _ _
                rw [HE.out]
                exact ⟨rfl, HBN.out⟩
              · have f14 : (x.o == 14) = false := beq_eq_false_iff_ne.2 (by omega)
                have f15 : (x.o == 15) = true := beq_iff_eq.2 e15
                clear e15 hem
                go_wp2
                go_ret3
                show Cd.FlowPost _ _ R _ _
                rw [HE.out]
                exact ⟨rfl, HBN.out⟩
          · have f14 : (x.o == 14) = false := beq_eq_false_iff_ne.2 (fun e => een (.inl e))
            have f15 : (x.o == 15) = false := beq_eq_false_iff_ne.2 (fun e => een (.inr e))
            have hen : ¬ (Cd.op x.o).en = true := fun h => een (HEN.out.1 h)
            have HRX1 : Hid (R = match Cd.reachAll L (Cd.goes x k) (Cd.w64 (v + Cd.w64 (Lv - N))) with
              | none => none
              | some ah1 => Cd.flowW (l.drop (k + 1)) (k + 1) ah1 (max M1 (Cd.w64 (v + Cd.w64 (Lv - N))))) := by
              show _ = _
              rw [HRX0.out, if_neg (fun h => h.elim c1 (fun h => hen h.1)), if_neg hen]
              rfl
            have hnum := Cd.num_two v N Lv
            obtain ⟨n2, hn2⟩ : ∃ n2, Cd.w64 (v + Cd.w64 (Lv - N)) = n2 := ⟨_, rfl⟩
            rw [hn2] at HRX1 hnum
            obtain ⟨M2, hM2⟩ : ∃ M2, max M1 n2 = M2 := ⟨_, rfl⟩
            rw [hM2] at HRX1
            unfold Cd.w64 at hnum
            clear HRX0 c1 een hen hn2
            go_upto_region 21 with fail
            try simp only [hM1]
            try simp only [hnum]
            try simp only [hM2]
            clear hM1 hM2 hnum f14 f15 c1' gk
            by_cases e10 : x.o = 10
            · have HRX := HRX1
              clear HRX1
              have f10n : (x.o != 10) = false := bne_eq_false_iff_eq.2 e10
              have f10 : (x.o == 10) = true := beq_iff_eq.2 e10
              have HGO : Hid (Cd.goes x k = [x.a]) := by unfold Cd.goes; rw [if_neg (fun h => h e10), if_pos (HJ.out.2 (.inl e10))]; rfl
              rw [HGO.out] at HRX
              have HNN : Hid (∀ t ∈ ([x.a] : List Int), 0 ≤ t) := fun t ht => by rw [List.mem_singleton.1 ht]; exact HPX.out (HJ.out.2 (.inl e10))
              clear e10 HGO
              obtain ⟨ral, hral⟩ : ∃ W, r4.alloc (.cells #[.int .i64 x.a] 3) = W := ⟨_, rfl⟩
              obtain ⟨hbra, -⟩ := Cd.below_new (Below.refl _ r4) hral (Nat.le_refl _)
              have hsrcra : Ap.Src ral (.slice (some ⟨r4.heap.size, 0, none⟩) 1 1) 1 [.int .i64 x.a] := .inr ⟨_, _, rfl, fun j u h => by rw [Cd.addr0]; exact Cd.cells_new r4 [.int .i64 x.a] _ hral j u h⟩
              have hownra : ral.ownsRow r4.heap.size 3 1 (.slice none 0 0) 0 [] := World.ownsRow_nil _ _ _ _
              have hbsra : r4.heap.size ≤ ral.heap.size := by have := hbra.size; omega
              go_wp2_with (at_builtin; refine Ap.list rfl _ _ 42 rfl r4.heap.size 3 i0 (.int .i64 0) 1 8 Tryz.underlying42 HI1.out HZ0.out HZ1.out HZ2.out rfl (by decide) (.slice none 0 0) 0 [] rfl hownra (.slice (some ⟨r4.heap.size, 0, none⟩) 1 1) 1 [.int .i64 x.a] rfl hsrcra rfl (by intro u hu; rw [List.mem_singleton.1 hu]; rfl) (by decide) (by decide) hbsra ?_)
              intro v1 r5 hown1 hgr1 hat1
              obtain ⟨aT, cT, rfl⟩ := Dt.row_form hown1
              have hk45 : Keep (fun _ => False) r4 r5 := ((Keep.refl (fun _ => False) r4).below hbra).trans ((Cd.keep_grown hgr1).mono (fun j _ e => by cases e))
              clear hgr1 hat1 hsrcra hownra hbra hbsra y0 y1
              obtain ⟨y0, y1, -⟩ := HX4.out.keep hk45 id
              have hk46 : Keep (fun j => r4.heap.size ≤ j) r4 r5 := hk45.mono (fun _ _ h => h.elim)
              clear hk45 hral
              obtain ⟨T, hT⟩ : ∃ T : List Int, ([x.a] : List Int) = T := ⟨_, rfl⟩
              have HTL : Hid (T.length = 1) := by show _ = _; rw [← hT]; rfl
              have HTR : Hid (r5.ownsRow r4.heap.size 3 1 (.slice aT 1 cT) 1 (T.map (Value.int .i64))) := by rw [← hT]; exact hown1
              rw [hT] at HNN HRX
              obtain ⟨RI, hRI⟩ : ∃ RI, RI = Cd.reachAll L T n2 := ⟨_, rfl⟩
              rw [← hRI] at HRX
              have HRI0 : Hid (RI = Cd.reachAll L (T.drop 0) n2) := hRI
              have HG6 : Hid (Cd.RowI r5 G L) := HG4.out.keep hk46 (by have := HG4.out.lt; omega)
              have HB6 : Hid (Below w.heap.size w r5) := HBN.out.trans (hk46.to_below (fun j e => by have := HBN.out.size; omega) HBN.out.size)
              have HB16 : Hid (Below w1.heap.size w1 r5) := HB14.out.trans (hk46.to_below (fun j e => by have := HB14.out.size; omega) HB14.out.size)
              have HX6 : Hid (Cd.InsAt r5 b9 x) := HX4.out.keep hk46 (by have := HX4L.out; omega)
              have HG4L : Hid (G < r4.heap.size) := HG4.out.lt
              clear hown1 hk46 hT hRI HX4 HG4
              go_wp2
              clear y0 y1
              go_loopw [15] (fun v wz => ∃ (i : Nat) (M : List Int), v = .int .i64 i ∧ i ≤ 1 ∧ M.length = m ∧ Hid (RI = Cd.reachAll M (T.drop i) n2) ∧ Hid (Cd.RowI wz G M) ∧ Hid (Keep (fun j => j = G) r5 wz)) (fun v _ => 1 - (intOf v).toNat)
              case atStart => exact ⟨0, L, rfl, by omega, hL, HRI0, HG6, Keep.refl _ _⟩
              case round =>
                clear HRI0 HG6
                obtain ⟨i, M, rfl, hi2, hM, HRI, HGM, HKZ⟩ := hrel
                by_cases hit : i < 1
                · have hiti : (i : Int) < (1 : Int) := by omega
                  have hi0 : (0 : Int) ≤ (i : Int) := by omega
                  have hiT : i < T.length := by rw [HTL.out]; exact hit
                  have hri := HRI.out
                  rw [List.drop_eq_getElem_cons hiT] at hri
                  have ht0 := HNN.out T[i] (List.getElem_mem hiT)
                  have hrz := Cd.own_keep HTR.out HKZ.out (fun j e => by have h1 := (HTR.out.lt j e).1; have h2 := HG4L.out; show ¬ j = G; omega)
                  rcases hrz.2 with ⟨e, h0⟩ | ⟨gT, cap, cur, e, -⟩
                  · exact absurd h0 (by decide)
                  cases e
                  have ct := hrz.cells (g := gT) rfl i (.int .i64 T[i]) (by rw [List.getElem?_map, List.getElem?_eq_getElem hiT]; rfl)
                  rw [Cd.addr0] at ct
                  obtain ⟨t, ht⟩ : ∃ t : Nat, T[i] = (t : Int) := ⟨T[i].toNat, by omega⟩
                  rw [ht] at ct hri
                  rw [Cd.reachAll] at hri
                  have HBZ : Hid (Below w.heap.size w wr) := HB6.out.trans (HKZ.out.to_below (fun j e => by have := HS.out; omega) HB6.out.size)
                  by_cases hka : Cd.okAt M t n2
                  · rw [Cd.reach_ok hka] at hri
                    have htl := hka.1
                    obtain ⟨gt, ft⟩ := HGM.out.at t htl
                    have hnb := hka.2
                    obtain ⟨u, hu⟩ : ∃ u, Cd.g M t = u := ⟨_, rfl⟩
                    rw [hu] at gt hnb
                    have h1' : decide ((m : Int) ≤ (t : Int)) = false := decide_eq_false (by omega)
                    have htm : (t : Int) < (m : Int) := by omega
                    have ht00 : (0 : Int) ≤ (t : Int) := by omega
                    have HRN : Hid (RI = Cd.reachAll (M.set t n2) (T.drop (i + 1)) n2) := hri
                    have HGN : Hid (Cd.RowI (wr.setCell ⟨G, t, none⟩ (.int .i64 n2)) G (M.set t n2)) := HGM.out.set t n2
                    have HKN : Hid (Keep (fun j => j = G) r5 (wr.setCell ⟨G, t, none⟩ (.int .i64 n2))) := HKZ.out.setCell rfl _ _
                    have hMl : (M.set t n2).length = m := by rw [List.length_set]; exact hM
                    by_cases hu0 : 0 ≤ u
                    · have hun : (u != n2) = false := bne_eq_false_iff_eq.2 (Classical.byContradiction fun h => hnb ⟨hu0, h⟩)
                      have hu0' : decide (0 ≤ u) = true := decide_eq_true hu0
                      clear hri hka htl hnb hu HRI HGM HKZ hrz ht hu0 hM
                      go_wp2
                      go_roundw
                      case rel => exact ⟨i + 1, M.set t n2, by simp, by omega, hMl, HRN, HGN, HKN⟩
                      case measure => simp [intOf]; omega
                    · have hu0' : decide (0 ≤ u) = false := decide_eq_false hu0
                      clear hri hka htl hnb hu HRI HGM HKZ hrz ht hu0 hM
                      go_wp2
                      go_roundw
                      case rel => exact ⟨i + 1, M.set t n2, by simp, by omega, hMl, HRN, HGN, HKN⟩
                      case measure => simp [intOf]; omega
                  · rw [Cd.reach_bad hka] at hri
                    have HE : Hid (R = none) := by
                      show _ = _
                      have h1 : RI = none := hri
                      rw [HRX.out, h1]
                    by_cases htl : t < m
                    · obtain ⟨gt, -⟩ := HGM.out.at t (by omega)
                      have hnb : 0 ≤ Cd.g M t ∧ Cd.g M t ≠ n2 := Classical.byContradiction fun h => hka ⟨by omega, h⟩
                      obtain ⟨u, hu⟩ : ∃ u, Cd.g M t = u := ⟨_, rfl⟩
                      rw [hu] at gt hnb
                      have hun : (u != n2) = true := bne_iff_ne.2 hnb.2
                      have hu0 : decide (0 ≤ u) = true := decide_eq_true hnb.1
                      have h1' : decide ((m : Int) ≤ (t : Int)) = false := decide_eq_false (by omega)
                      have htm : (t : Int) < (m : Int) := by omega
                      have ht00 : (0 : Int) ≤ (t : Int) := by omega
                      clear hri hka htl hnb hu HRI HGM HKZ hrz ht hM HRX
                      go_wp2
                      go_ret3
                      show Cd.FlowPost _ _ R _ _
                      rw [HE.out]
                      exact ⟨rfl, HBZ.out⟩
                    · have h1' : decide ((m : Int) ≤ (t : Int)) = true := decide_eq_true (by omega)
                      have h1i : (m : Int) ≤ (t : Int) := by omega
                      have h1n : m ≤ t := by omega
                      clear hri hka htl HRI HGM HKZ hrz ht hM HRX
                      go_wp2
                      go_ret3
                      show Cd.FlowPost _ _ R _ _
                      rw [HE.out]
                      exact ⟨rfl, HBZ.out⟩
                · obtain rfl : i = 1 := by omega
                  have HRN : Hid (R = Cd.flowW (l.drop (k + 1)) (k + 1) M M2) := by
                    show _ = _
                    have h1 := HRI.out
                    rw [List.drop_eq_nil_of_le (by rw [HTL.out]; exact Nat.le_refl _), Cd.reachAll] at h1
                    rw [HRX.out, h1]
                  have HBZ : Hid (Below w.heap.size w wr) := HB6.out.trans (HKZ.out.to_below (fun j e => by have := HS.out; omega) HB6.out.size)
                  have HB1Z : Hid (Below w1.heap.size w1 wr) := HB16.out.trans (HKZ.out.to_below (fun j e => by have := HGE.out; omega) HB16.out.size)
                  clear hit HRI HKZ HRX
                  go_wp2
                  go_roundw
                  case rel => exact ⟨k + 1, M2, M, rfl, by simp, by omega, hM, HRN, HGM, HBZ, HB1Z⟩
                  case measure => simp [intOf]; omega
            by_cases e11 : x.o = 11
            · have HRX := HRX1
              clear HRX1
              have f10n : (x.o != 10) = true := bne_iff_ne.2 e10
              have f10 : (x.o == 10) = false := beq_eq_false_iff_ne.2 e10
              have f11 : (x.o == 11) = true := beq_iff_eq.2 e11
              have HGO : Hid (Cd.goes x k = [(k : Int) + 1, x.a]) := by unfold Cd.goes; rw [if_pos e10, if_pos (HJ.out.2 (.inr e11))]; rfl
              rw [HGO.out] at HRX
              have HNN : Hid (∀ t ∈ ([(k : Int) + 1, x.a] : List Int), 0 ≤ t) := fun t ht => by rcases List.mem_cons.1 ht with rfl | ht; omega; rw [List.mem_singleton.1 ht]; exact HPX.out (HJ.out.2 (.inr e11))
              clear e10 e11 HGO
              obtain ⟨ral, hral⟩ : ∃ W, r4.alloc (.cells #[.int .i64 ((k : Int) + 1)] 3) = W := ⟨_, rfl⟩
              obtain ⟨hbra, -⟩ := Cd.below_new (Below.refl _ r4) hral (Nat.le_refl _)
              have hsrcra : Ap.Src ral (.slice (some ⟨r4.heap.size, 0, none⟩) 1 1) 1 [.int .i64 ((k : Int) + 1)] := .inr ⟨_, _, rfl, fun j u h => by rw [Cd.addr0]; exact Cd.cells_new r4 [.int .i64 ((k : Int) + 1)] _ hral j u h⟩
              have hownra : ral.ownsRow r4.heap.size 3 1 (.slice none 0 0) 0 [] := World.ownsRow_nil _ _ _ _
              have hbsra : r4.heap.size ≤ ral.heap.size := by have := hbra.size; omega
              go_wp2_with (at_builtin; refine Ap.list rfl _ _ 42 rfl r4.heap.size 3 i0 (.int .i64 0) 1 8 Tryz.underlying42 HI1.out HZ0.out HZ1.out HZ2.out rfl (by decide) (.slice none 0 0) 0 [] rfl hownra (.slice (some ⟨r4.heap.size, 0, none⟩) 1 1) 1 [.int .i64 ((k : Int) + 1)] rfl hsrcra rfl (by intro u hu; rw [List.mem_singleton.1 hu]; rfl) (by decide) (by decide) hbsra ?_)
              intro v1 r5 hown1 hgr1 hat1
              obtain ⟨aT, cT, rfl⟩ := Dt.row_form hown1
              have hk45 : Keep (fun _ => False) r4 r5 := ((Keep.refl (fun _ => False) r4).below hbra).trans ((Cd.keep_grown hgr1).mono (fun j _ e => by cases e))
              clear hgr1 hat1 hsrcra hownra hbra hbsra y0 y1
              obtain ⟨y0, y1, -⟩ := HX4.out.keep hk45 id
              have hs45 := hk45.size
              obtain ⟨rbl, hrbl⟩ : ∃ W, r5.alloc (.cells #[.int .i64 x.a] 3) = W := ⟨_, rfl⟩
              obtain ⟨hbrb, -⟩ := Cd.below_new (Below.refl _ r5) hrbl (Nat.le_refl _)
              have hsrcrb : Ap.Src rbl (.slice (some ⟨r5.heap.size, 0, none⟩) 1 1) 1 [.int .i64 x.a] := .inr ⟨_, _, rfl, fun j u h => by rw [Cd.addr0]; exact Cd.cells_new r5 [.int .i64 x.a] _ hrbl j u h⟩
              have hownrb : rbl.ownsRow r4.heap.size 3 1 (.slice aT 1 cT) 1 [.int .i64 ((k : Int) + 1)] := Cd.own_keep (S := fun _ => False) hown1 ((Keep.refl _ r5).below hbrb) (fun _ _ h => h)
              have hbsrb : r4.heap.size ≤ rbl.heap.size := by have := hbrb.size; omega
              go_wp2_with (at_builtin; refine Ap.list rfl _ _ 42 rfl r4.heap.size 3 i0 (.int .i64 0) 1 8 Tryz.underlying42 HI1.out HZ0.out HZ1.out HZ2.out rfl (by decide) (.slice aT 1 cT) 1 [.int .i64 ((k : Int) + 1)] rfl hownrb (.slice (some ⟨r5.heap.size, 0, none⟩) 1 1) 1 [.int .i64 x.a] rfl hsrcrb rfl (by intro u hu; rw [List.mem_singleton.1 hu]; rfl) (by decide) (by decide) hbsrb ?_)
              intro v2 r6 hown2 hgr2 hat2
              obtain ⟨aU, cU, rfl⟩ := Dt.row_form hown2
              have hk46 : Keep (fun j => r4.heap.size ≤ j) r4 r6 := ((hk45.mono (fun _ _ h => h.elim)).below hbrb).trans ((Cd.keep_grown hgr2).mono (fun j _ e => (hown1.lt j e).1))
              clear hown1 hgr2 hat2 hsrcrb hownrb hbrb hbsrb hk45 hs45 hral hrbl
              obtain ⟨T, hT⟩ : ∃ T : List Int, ([(k : Int) + 1, x.a] : List Int) = T := ⟨_, rfl⟩
              have HTL : Hid (T.length = 2) := by show _ = _; rw [← hT]; rfl
              have HTR : Hid (r6.ownsRow r4.heap.size 3 1 (.slice aU 2 cU) 2 (T.map (Value.int .i64))) := by rw [← hT]; exact hown2
              rw [hT] at HNN HRX
              obtain ⟨RI, hRI⟩ : ∃ RI, RI = Cd.reachAll L T n2 := ⟨_, rfl⟩
              rw [← hRI] at HRX
              have HRI0 : Hid (RI = Cd.reachAll L (T.drop 0) n2) := hRI
              have HG6 : Hid (Cd.RowI r6 G L) := HG4.out.keep hk46 (by have := HG4.out.lt; omega)
              have HB6 : Hid (Below w.heap.size w r6) := HBN.out.trans (hk46.to_below (fun j e => by have := HBN.out.size; omega) HBN.out.size)
              have HB16 : Hid (Below w1.heap.size w1 r6) := HB14.out.trans (hk46.to_below (fun j e => by have := HB14.out.size; omega) HB14.out.size)
              have HX6 : Hid (Cd.InsAt r6 b9 x) := HX4.out.keep hk46 (by have := HX4L.out; omega)
              have HG4L : Hid (G < r4.heap.size) := HG4.out.lt
              clear hown2 hk46 hT hRI HX4 HG4
              go_wp2
              clear y0 y1
              go_loopw [15] (fun v wz => ∃ (i : Nat) (M : List Int), v = .int .i64 i ∧ i ≤ 2 ∧ M.length = m ∧ Hid (RI = Cd.reachAll M (T.drop i) n2) ∧ Hid (Cd.RowI wz G M) ∧ Hid (Keep (fun j => j = G) r6 wz)) (fun v _ => 2 - (intOf v).toNat)
              case atStart => exact ⟨0, L, rfl, by omega, hL, HRI0, HG6, Keep.refl _ _⟩
              case round =>
                clear HRI0 HG6
                obtain ⟨i, M, rfl, hi2, hM, HRI, HGM, HKZ⟩ := hrel
                by_cases hit : i < 2
                · have hiti : (i : Int) < (2 : Int) := by omega
                  have hi0 : (0 : Int) ≤ (i : Int) := by omega
                  have hiT : i < T.length := by rw [HTL.out]; exact hit
                  have hri := HRI.out
                  rw [List.drop_eq_getElem_cons hiT] at hri
                  have ht0 := HNN.out T[i] (List.getElem_mem hiT)
                  have hrz := Cd.own_keep HTR.out HKZ.out (fun j e => by have h1 := (HTR.out.lt j e).1; have h2 := HG4L.out; show ¬ j = G; omega)
                  rcases hrz.2 with ⟨e, h0⟩ | ⟨gT, cap, cur, e, -⟩
                  · exact absurd h0 (by decide)
                  cases e
                  have ct := hrz.cells (g := gT) rfl i (.int .i64 T[i]) (by rw [List.getElem?_map, List.getElem?_eq_getElem hiT]; rfl)
                  rw [Cd.addr0] at ct
                  obtain ⟨t, ht⟩ : ∃ t : Nat, T[i] = (t : Int) := ⟨T[i].toNat, by omega⟩
                  rw [ht] at ct hri
                  rw [Cd.reachAll] at hri
                  have HBZ : Hid (Below w.heap.size w wr) := HB6.out.trans (HKZ.out.to_below (fun j e => by have := HS.out; omega) HB6.out.size)
                  by_cases hka : Cd.okAt M t n2
                  · rw [Cd.reach_ok hka] at hri
                    have htl := hka.1
                    obtain ⟨gt, ft⟩ := HGM.out.at t htl
                    have hnb := hka.2
                    obtain ⟨u, hu⟩ : ∃ u, Cd.g M t = u := ⟨_, rfl⟩
                    rw [hu] at gt hnb
                    have h1' : decide ((m : Int) ≤ (t : Int)) = false := decide_eq_false (by omega)
                    have htm : (t : Int) < (m : Int) := by omega
                    have ht00 : (0 : Int) ≤ (t : Int) := by omega
                    have HRN : Hid (RI = Cd.reachAll (M.set t n2) (T.drop (i + 1)) n2) := hri
                    have HGN : Hid (Cd.RowI (wr.setCell ⟨G, t, none⟩ (.int .i64 n2)) G (M.set t n2)) := HGM.out.set t n2
                    have HKN : Hid (Keep (fun j => j = G) r6 (wr.setCell ⟨G, t, none⟩ (.int .i64 n2))) := HKZ.out.setCell rfl _ _
                    have hMl : (M.set t n2).length = m := by rw [List.length_set]; exact hM
                    by_cases hu0 : 0 ≤ u
                    · have hun : (u != n2) = false := bne_eq_false_iff_eq.2 (Classical.byContradiction fun h => hnb ⟨hu0, h⟩)
                      have hu0' : decide (0 ≤ u) = true := decide_eq_true hu0
                      clear hri hka htl hnb hu HRI HGM HKZ hrz ht hu0 hM
                      go_wp2
                      go_roundw
                      case rel => exact ⟨i + 1, M.set t n2, by simp, by omega, hMl, HRN, HGN, HKN⟩
                      case measure => simp [intOf]; omega
                    · have hu0' : decide (0 ≤ u) = false := decide_eq_false hu0
                      clear hri hka htl hnb hu HRI HGM HKZ hrz ht hu0 hM
                      go_wp2
                      go_roundw
                      case rel => exact ⟨i + 1, M.set t n2, by simp, by omega, hMl, HRN, HGN, HKN⟩
                      case measure => simp [intOf]; omega
                  · rw [Cd.reach_bad hka] at hri
                    have HE : Hid (R = none) := by
                      show _ = _
                      have h1 : RI = none := hri
                      rw [HRX.out, h1]
                    by_cases htl : t < m
                    · obtain ⟨gt, -⟩ := HGM.out.at t (by omega)
                      have hnb : 0 ≤ Cd.g M t ∧ Cd.g M t ≠ n2 := Classical.byContradiction fun h => hka ⟨by omega, h⟩
                      obtain ⟨u, hu⟩ : ∃ u, Cd.g M t = u := ⟨_, rfl⟩
                      rw [hu] at gt hnb
                      have hun : (u != n2) = true := bne_iff_ne.2 hnb.2
                      have hu0 : decide (0 ≤ u) = true := decide_eq_true hnb.1
                      have h1' : decide ((m : Int) ≤ (t : Int)) = false := decide_eq_false (by omega)
                      have htm : (t : Int) < (m : Int) := by omega
                      have ht00 : (0 : Int) ≤ (t : Int) := by omega
                      clear hri hka htl hnb hu HRI HGM HKZ hrz ht hM HRX
                      go_wp2
                      go_ret3
                      show Cd.FlowPost _ _ R _ _
                      rw [HE.out]
                      exact ⟨rfl, HBZ.out⟩
                    · have h1' : decide ((m : Int) ≤ (t : Int)) = true := decide_eq_true (by omega)
                      have h1i : (m : Int) ≤ (t : Int) := by omega
                      have h1n : m ≤ t := by omega
                      clear hri hka htl HRI HGM HKZ hrz ht hM HRX
                      go_wp2
                      go_ret3
                      show Cd.FlowPost _ _ R _ _
                      rw [HE.out]
                      exact ⟨rfl, HBZ.out⟩
                · obtain rfl : i = 2 := by omega
                  have HRN : Hid (R = Cd.flowW (l.drop (k + 1)) (k + 1) M M2) := by
                    show _ = _
                    have h1 := HRI.out
                    rw [List.drop_eq_nil_of_le (by rw [HTL.out]; exact Nat.le_refl _), Cd.reachAll] at h1
                    rw [HRX.out, h1]
                  have HBZ : Hid (Below w.heap.size w wr) := HB6.out.trans (HKZ.out.to_below (fun j e => by have := HS.out; omega) HB6.out.size)
                  have HB1Z : Hid (Below w1.heap.size w1 wr) := HB16.out.trans (HKZ.out.to_below (fun j e => by have := HGE.out; omega) HB16.out.size)
                  clear hit HRI HKZ HRX
                  go_wp2
                  go_roundw
                  case rel => exact ⟨k + 1, M2, M, rfl, by simp, by omega, hM, HRN, HGM, HBZ, HB1Z⟩
                  case measure => simp [intOf]; omega
            · have HRX := HRX1
              clear HRX1
              have f10n : (x.o != 10) = true := bne_iff_ne.2 e10
              have f10 : (x.o == 10) = false := beq_eq_false_iff_ne.2 e10
              have f11 : (x.o == 11) = false := beq_eq_false_iff_ne.2 e11
              have HGO : Hid (Cd.goes x k = [(k : Int) + 1]) := by unfold Cd.goes; rw [if_pos e10, if_neg (fun h => (HJ.out.1 h).elim e10 e11)]; rfl
              rw [HGO.out] at HRX
              have HNN : Hid (∀ t ∈ ([(k : Int) + 1] : List Int), 0 ≤ t) := fun t ht => by rw [List.mem_singleton.1 ht]; omega
              clear e10 e11 HGO
              obtain ⟨ral, hral⟩ : ∃ W, r4.alloc (.cells #[.int .i64 ((k : Int) + 1)] 3) = W := ⟨_, rfl⟩
              obtain ⟨hbra, -⟩ := Cd.below_new (Below.refl _ r4) hral (Nat.le_refl _)
              have hsrcra : Ap.Src ral (.slice (some ⟨r4.heap.size, 0, none⟩) 1 1) 1 [.int .i64 ((k : Int) + 1)] := .inr ⟨_, _, rfl, fun j u h => by rw [Cd.addr0]; exact Cd.cells_new r4 [.int .i64 ((k : Int) + 1)] _ hral j u h⟩
              have hownra : ral.ownsRow r4.heap.size 3 1 (.slice none 0 0) 0 [] := World.ownsRow_nil _ _ _ _
              have hbsra : r4.heap.size ≤ ral.heap.size := by have := hbra.size; omega
              go_wp2_with (at_builtin; refine Ap.list rfl _ _ 42 rfl r4.heap.size 3 i0 (.int .i64 0) 1 8 Tryz.underlying42 HI1.out HZ0.out HZ1.out HZ2.out rfl (by decide) (.slice none 0 0) 0 [] rfl hownra (.slice (some ⟨r4.heap.size, 0, none⟩) 1 1) 1 [.int .i64 ((k : Int) + 1)] rfl hsrcra rfl (by intro u hu; rw [List.mem_singleton.1 hu]; rfl) (by decide) (by decide) hbsra ?_)
              intro v1 r5 hown1 hgr1 hat1
              obtain ⟨aT, cT, rfl⟩ := Dt.row_form hown1
              have hk45 : Keep (fun _ => False) r4 r5 := ((Keep.refl (fun _ => False) r4).below hbra).trans ((Cd.keep_grown hgr1).mono (fun j _ e => by cases e))
              clear hgr1 hat1 hsrcra hownra hbra hbsra y0 y1
              obtain ⟨y0, y1, -⟩ := HX4.out.keep hk45 id
              have hk46 : Keep (fun j => r4.heap.size ≤ j) r4 r5 := hk45.mono (fun _ _ h => h.elim)
              clear hk45 hral
              obtain ⟨T, hT⟩ : ∃ T : List Int, ([(k : Int) + 1] : List Int) = T := ⟨_, rfl⟩
              have HTL : Hid (T.length = 1) := by show _ = _; rw [← hT]; rfl
              have HTR : Hid (r5.ownsRow r4.heap.size 3 1 (.slice aT 1 cT) 1 (T.map (Value.int .i64))) := by rw [← hT]; exact hown1
              rw [hT] at HNN HRX
              obtain ⟨RI, hRI⟩ : ∃ RI, RI = Cd.reachAll L T n2 := ⟨_, rfl⟩
              rw [← hRI] at HRX
              have HRI0 : Hid (RI = Cd.reachAll L (T.drop 0) n2) := hRI
              have HG6 : Hid (Cd.RowI r5 G L) := HG4.out.keep hk46 (by have := HG4.out.lt; omega)
              have HB6 : Hid (Below w.heap.size w r5) := HBN.out.trans (hk46.to_below (fun j e => by have := HBN.out.size; omega) HBN.out.size)
              have HB16 : Hid (Below w1.heap.size w1 r5) := HB14.out.trans (hk46.to_below (fun j e => by have := HB14.out.size; omega) HB14.out.size)
              have HX6 : Hid (Cd.InsAt r5 b9 x) := HX4.out.keep hk46 (by have := HX4L.out; omega)
              have HG4L : Hid (G < r4.heap.size) := HG4.out.lt
              clear hown1 hk46 hT hRI HX4 HG4
              go_wp2
              clear y0 y1
              go_loopw [15] (fun v wz => ∃ (i : Nat) (M : List Int), v = .int .i64 i ∧ i ≤ 1 ∧ M.length = m ∧ Hid (RI = Cd.reachAll M (T.drop i) n2) ∧ Hid (Cd.RowI wz G M) ∧ Hid (Keep (fun j => j = G) r5 wz)) (fun v _ => 1 - (intOf v).toNat)
              case atStart => exact ⟨0, L, rfl, by omega, hL, HRI0, HG6, Keep.refl _ _⟩
              case round =>
                clear HRI0 HG6
                obtain ⟨i, M, rfl, hi2, hM, HRI, HGM, HKZ⟩ := hrel
                by_cases hit : i < 1
                · have hiti : (i : Int) < (1 : Int) := by omega
                  have hi0 : (0 : Int) ≤ (i : Int) := by omega
                  have hiT : i < T.length := by rw [HTL.out]; exact hit
                  have hri := HRI.out
                  rw [List.drop_eq_getElem_cons hiT] at hri
                  have ht0 := HNN.out T[i] (List.getElem_mem hiT)
                  have hrz := Cd.own_keep HTR.out HKZ.out (fun j e => by have h1 := (HTR.out.lt j e).1; have h2 := HG4L.out; show ¬ j = G; omega)
                  rcases hrz.2 with ⟨e, h0⟩ | ⟨gT, cap, cur, e, -⟩
                  · exact absurd h0 (by decide)
                  cases e
                  have ct := hrz.cells (g := gT) rfl i (.int .i64 T[i]) (by rw [List.getElem?_map, List.getElem?_eq_getElem hiT]; rfl)
                  rw [Cd.addr0] at ct
                  obtain ⟨t, ht⟩ : ∃ t : Nat, T[i] = (t : Int) := ⟨T[i].toNat, by omega⟩
                  rw [ht] at ct hri
                  rw [Cd.reachAll] at hri
                  have HBZ : Hid (Below w.heap.size w wr) := HB6.out.trans (HKZ.out.to_below (fun j e => by have := HS.out; omega) HB6.out.size)
                  by_cases hka : Cd.okAt M t n2
                  · rw [Cd.reach_ok hka] at hri
                    have htl := hka.1
                    obtain ⟨gt, ft⟩ := HGM.out.at t htl
                    have hnb := hka.2
                    obtain ⟨u, hu⟩ : ∃ u, Cd.g M t = u := ⟨_, rfl⟩
                    rw [hu] at gt hnb
                    have h1' : decide ((m : Int) ≤ (t : Int)) = false := decide_eq_false (by omega)
                    have htm : (t : Int) < (m : Int) := by omega
                    have ht00 : (0 : Int) ≤ (t : Int) := by omega
                    have HRN : Hid (RI = Cd.reachAll (M.set t n2) (T.drop (i + 1)) n2) := hri
                    have HGN : Hid (Cd.RowI (wr.setCell ⟨G, t, none⟩ (.int .i64 n2)) G (M.set t n2)) := HGM.out.set t n2
                    have HKN : Hid (Keep (fun j => j = G) r5 (wr.setCell ⟨G, t, none⟩ (.int .i64 n2))) := HKZ.out.setCell rfl _ _
                    have hMl : (M.set t n2).length = m := by rw [List.length_set]; exact hM
                    by_cases hu0 : 0 ≤ u
                    · have hun : (u != n2) = false := bne_eq_false_iff_eq.2 (Classical.byContradiction fun h => hnb ⟨hu0, h⟩)
                      have hu0' : decide (0 ≤ u) = true := decide_eq_true hu0
                      clear hri hka htl hnb hu HRI HGM HKZ hrz ht hu0 hM
                      go_wp2
                      go_roundw
                      case rel => exact ⟨i + 1, M.set t n2, by simp, by omega, hMl, HRN, HGN, HKN⟩
                      case measure => simp [intOf]; omega
                    · have hu0' : decide (0 ≤ u) = false := decide_eq_false hu0
                      clear hri hka htl hnb hu HRI HGM HKZ hrz ht hu0 hM
                      go_wp2
                      go_roundw
                      case rel => exact ⟨i + 1, M.set t n2, by simp, by omega, hMl, HRN, HGN, HKN⟩
                      case measure => simp [intOf]; omega
                  · rw [Cd.reach_bad hka] at hri
                    have HE : Hid (R = none) := by
                      show _ = _
                      have h1 : RI = none := hri
                      rw [HRX.out, h1]
                    by_cases htl : t < m
                    · obtain ⟨gt, -⟩ := HGM.out.at t (by omega)
                      have hnb : 0 ≤ Cd.g M t ∧ Cd.g M t ≠ n2 := Classical.byContradiction fun h => hka ⟨by omega, h⟩
                      obtain ⟨u, hu⟩ : ∃ u, Cd.g M t = u := ⟨_, rfl⟩
                      rw [hu] at gt hnb
                      have hun : (u != n2) = true := bne_iff_ne.2 hnb.2
                      have hu0 : decide (0 ≤ u) = true := decide_eq_true hnb.1
                      have h1' : decide ((m : Int) ≤ (t : Int)) = false := decide_eq_false (by omega)
                      have htm : (t : Int) < (m : Int) := by omega
                      have ht00 : (0 : Int) ≤ (t : Int) := by omega
                      clear hri hka htl hnb hu HRI HGM HKZ hrz ht hM HRX
                      go_wp2
                      go_ret3
                      show Cd.FlowPost _ _ R _ _
                      rw [HE.out]
                      exact ⟨rfl, HBZ.out⟩
                    · have h1' : decide ((m : Int) ≤ (t : Int)) = true := decide_eq_true (by omega)
                      have h1i : (m : Int) ≤ (t : Int) := by omega
                      have h1n : m ≤ t := by omega
                      clear hri hka htl HRI HGM HKZ hrz ht hM HRX
                      go_wp2
                      go_ret3
                      show Cd.FlowPost _ _ R _ _
                      rw [HE.out]
                      exact ⟨rfl, HBZ.out⟩
                · obtain rfl : i = 1 := by omega
                  have HRN : Hid (R = Cd.flowW (l.drop (k + 1)) (k + 1) M M2) := by
                    show _ = _
                    have h1 := HRI.out
                    rw [List.drop_eq_nil_of_le (by rw [HTL.out]; exact Nat.le_refl _), Cd.reachAll] at h1
                    rw [HRX.out, h1]
                  have HBZ : Hid (Below w.heap.size w wr) := HB6.out.trans (HKZ.out.to_below (fun j e => by have := HS.out; omega) HB6.out.size)
                  have HB1Z : Hid (Below w1.heap.size w1 wr) := HB16.out.trans (HKZ.out.to_below (fun j e => by have := HGE.out; omega) HB16.out.size)
                  clear hit HRI HKZ HRX
                  go_wp2
                  go_roundw
                  case rel => exact ⟨k + 1, M2, M, rfl, by simp, by omega, hM, HRN, HGM, HBZ, HB1Z⟩
                  case measure => simp [intOf]; omega
        · obtain rfl : k = m := by omega
          have hge : ((k : Int) < (k : Int)) = False := eq_false (by omega)
          have HE : Hid (R = some (L, most)) := by
            show _ = _
            rw [HR.out, List.drop_eq_nil_of_le (by rw [HN.out]; exact Nat.le_refl _), Cd.flowW]
          have HOWN := Lib.hid (HGL.out.own hL (by have := HS.out; omega : w.heap.size ≤ G) (by unfold maxLen; omega))
          clear HR hlt
          go_wp2
          go_ret3
          show Cd.FlowPost _ _ R _ _
          rw [HE.out]
          exact ⟨G, rfl, hL, HOWN.out, HB.out⟩
end Go.Proofs.YtlckjphnbfahgaaGreatDoor
namespace Go.Proofs.YtlckjphnbfahgaaGreatDoor
open Go.RowKit
attribute [local go_sem] Oper.semAt_some
namespace Cd
theorem head_iff (c : Code) : head c = true ↔ (0 ≤ c.params ∧ c.params ≤ 32) ∧ (c.rest = 0 ∨ c.rest = 1 ∧ c.params ≠ 0) ∧ (0 ≤ c.caps ∧ c.caps ≤ 64) ∧ 1 ≤ c.ins.length ∧ c.ins.length ≤ 4096 := by
  unfold head
  simp only [Bool.and_eq_true, decide_eq_true_eq, within_iff]
  constructor
  · rintro ⟨⟨⟨⟨h1, h2⟩, h3⟩, h4⟩, h5⟩
    exact ⟨h1, by omega, h3, by omega, h5⟩
  · rintro ⟨h1, h2, h3, h4, h5⟩
    exact ⟨⟨⟨⟨h1, by omega⟩, h3⟩, by omega⟩, h5⟩
theorem head_no {c : Code} (h : ¬ ((0 ≤ c.params ∧ c.params ≤ 32) ∧ (c.rest = 0 ∨ c.rest = 1 ∧ c.params ≠ 0) ∧ (0 ≤ c.caps ∧ c.caps ≤ 64) ∧ 1 ≤ c.ins.length ∧ c.ins.length ≤ 4096)) (p : Prog) : good p c = false := by
  rw [good_of]
  cases e : head c with
  | false => rfl
  | true => exact absurd ((head_iff c).1 e) h
end Cd
set_option maxRecDepth 100000 in
set_option maxHeartbeats 8000000 in
theorem rcodes_any {F : Nat → Prop} (p : Cd.Prog) (c : Cd.Code) (vc vk vn vi : Value) (w : World) (hp : Cd.PRep F w p vc vk vn) (hi : Cd.InsRow F w vi c.ins) (hl : c.ins.length ≤ 140737488355328) (hwf : ∀ x ∈ c.ins, Cd.I64 x.o ∧ Cd.I64 x.a ∧ Cd.I64 x.b) :
    Calls Tryz.prog 41 #[.agg #[vc, vk, vn], .agg #[.int .i64 c.params, .int .i64 c.rest, .int .i64 c.caps, .int .i64 c.max, vi]] w fun e w' => e = .returned (.bool (Cd.good p c)) ∧ Below w.heap.size w w' := by
  obtain ⟨a1, c1, a2, c2, a3, c3, rfl, rfl, rfl⟩ := hp.forms
  obtain ⟨ai, ci, rfl⟩ := hi.form
  obtain ⟨G, hG⟩ : ∃ G, G = Cd.good p c := ⟨_, rfl⟩
  rw [← hG]
  obtain ⟨w0, hw0⟩ : ∃ w0, w.alloc (.cells #[.slice a1 p.codes.length c1, .slice a2 p.consts.length c2, .slice a3 p.names.length c3] 26) = w0 := ⟨_, rfl⟩
  obtain ⟨hb0, hs0, hbp⟩ := Cd.boxP hw0
  obtain ⟨w1, hw1⟩ : ∃ w1, w0.alloc (.cells #[.int .i64 c.params, .int .i64 c.rest, .int .i64 c.caps, .int .i64 c.max, .slice ai c.ins.length ci] 47) = w1 := ⟨_, rfl⟩
  obtain ⟨hb1, hs1, hbc⟩ := Cd.boxC hw1
  rw [hs0] at hbc
  obtain ⟨q0, q1, q2, q3, q4⟩ := hbc w1 (Below.refl _ _)
  have HB1 : Hid (Below w.heap.size w w1) := hb0.trans (hb1.mono hb0.size)
  have HP := Lib.hid hp
  have HI := Lib.hid hi
  have HWF := Lib.hid hwf
  have HBP : Hid (∀ W, Below w1.heap.size w1 W → W.cell? ⟨w.heap.size, 0, none⟩ = some (.slice a1 p.codes.length c1) ∧ W.cell? ⟨w.heap.size, 1, none⟩ = some (.slice a2 p.consts.length c2) ∧ W.cell? ⟨w.heap.size, 2, none⟩ = some (.slice a3 p.names.length c3)) := fun W hW => hbp W (hb1.trans (hW.mono hb1.size))
  have HBC := Lib.hid hbc
  have HG := Lib.hid hG
  clear hp hi hb0 hb1 hs1 hbp hbc hG hwf
  by_cases l0 : c.params < 0
  · have f0 : decide (c.params < 0) = true := decide_eq_true l0
    have HE : Hid (G = false) := by show _ = _; rw [HG.out]; exact Cd.head_no (by omega) p
    clear HG l0
    go_enter Tryz.func41, Tryz.ntmps41
    go_wp2
    go_ret
    exact ⟨by rw [HE.out]; rfl, HB1.out⟩
  have f0 : decide (c.params < 0) = false := decide_eq_false l0
  by_cases l1 : 32 < c.params
  · have f1 : decide (32 < c.params) = true := decide_eq_true l1
    have HE : Hid (G = false) := by show _ = _; rw [HG.out]; exact Cd.head_no (by omega) p
    clear HG l0 l1
    go_enter Tryz.func41, Tryz.ntmps41
    go_wp2
    go_ret
    exact ⟨by rw [HE.out]; rfl, HB1.out⟩
  have f1 : decide (32 < c.params) = false := decide_eq_false l1
  obtain ⟨B, hB, hB2⟩ : ∃ B : Bool, B = ((c.rest != 0) && ((c.rest != 1) || (c.params == 0))) ∧ (B = true ↔ ¬ (c.rest = 0 ∨ c.rest = 1 ∧ c.params ≠ 0)) := by
    refine ⟨_, rfl, ?_⟩
    simp only [Bool.and_eq_true, Bool.or_eq_true, bne_iff_ne, beq_iff_eq]
    omega
  by_cases r0 : c.rest = 0
  case neg =>
    have g0 : (c.rest != 0) = true := bne_iff_ne.2 r0
    by_cases r1 : c.rest = 1
    case neg =>
      have g1 : (c.rest != 1) = true := bne_iff_ne.2 r1
      have HE : Hid (G = false) := by show _ = _; rw [HG.out]; exact Cd.head_no (by omega) p
      clear HG l0 l1 r0 r1 hB hB2
      go_enter Tryz.func41, Tryz.ntmps41
      go_wp2
      go_ret
      exact ⟨by rw [HE.out]; rfl, HB1.out⟩
    have g1 : (c.rest != 1) = false := bne_eq_false_iff_eq.2 r1
    by_cases r2 : c.params = 0
    · have g2 : (c.params == 0) = true := beq_iff_eq.2 r2
      have HE : Hid (G = false) := by show _ = _; rw [HG.out]; exact Cd.head_no (by omega) p
      clear HG l0 l1 r0 r1 r2 hB hB2
      go_enter Tryz.func41, Tryz.ntmps41
      go_wp2
      go_ret
      exact ⟨by rw [HE.out]; rfl, HB1.out⟩
    have g2 : (c.params == 0) = false := beq_eq_false_iff_ne.2 r2
    by_cases l2 : c.caps < 0
    · have f2 : decide (c.caps < 0) = true := decide_eq_true l2
      have HE : Hid (G = false) := by show _ = _; rw [HG.out]; exact Cd.head_no (by omega) p
      clear HG l0 l1 l2 hB hB2 r0 r1 r2
      go_enter Tryz.func41, Tryz.ntmps41
      go_wp2
      go_ret
      exact ⟨by rw [HE.out]; rfl, HB1.out⟩
    have f2 : decide (c.caps < 0) = false := decide_eq_false l2
    by_cases l3 : 64 < c.caps
    · have f3 : decide (64 < c.caps) = true := decide_eq_true l3
      have HE : Hid (G = false) := by show _ = _; rw [HG.out]; exact Cd.head_no (by omega) p
      clear HG l0 l1 l2 l3 hB hB2 r0 r1 r2
      go_enter Tryz.func41, Tryz.ntmps41
      go_wp2
      go_ret
      exact ⟨by rw [HE.out]; rfl, HB1.out⟩
    have f3 : decide (64 < c.caps) = false := decide_eq_false l3
    by_cases l4 : c.ins.length < 1
    · have f4 : decide ((c.ins.length : Int) < 1) = true := decide_eq_true (by omega)
      have HE : Hid (G = false) := by show _ = _; rw [HG.out]; exact Cd.head_no (by omega) p
      clear HG l0 l1 l2 l3 hB hB2 r0 r1 r2
      go_enter Tryz.func41, Tryz.ntmps41
      go_wp2
      go_ret
      exact ⟨by rw [HE.out]; rfl, HB1.out⟩
    have f4 : decide ((c.ins.length : Int) < 1) = false := decide_eq_false (by omega)
    by_cases l5 : 4096 < c.ins.length
    · have f5 : decide ((4096 : Int) < (c.ins.length : Int)) = true := decide_eq_true (by omega)
      have HE : Hid (G = false) := by show _ = _; rw [HG.out]; exact Cd.head_no (by omega) p
      clear HG l0 l1 l2 l3 l4 hB hB2 r0 r1 r2
      go_enter Tryz.func41, Tryz.ntmps41
      go_wp2
      go_ret
      exact ⟨by rw [HE.out]; rfl, HB1.out⟩
    have f5 : decide ((4096 : Int) < (c.ins.length : Int)) = false := decide_eq_false (by omega)
    have hln : 1 ≤ c.ins.length ∧ c.ins.length ≤ 4096 := ⟨by omega, by omega⟩
    have HG2 : Hid (G = (Cd.allIns p c && (match Cd.flowW c.ins 0 (Cd.start c.ins.length) 0 with
        | some (_, most) => decide (most = c.max) && decide (most ≤ 256)
        | none => false))) := by
      show _ = _
      rw [HG.out, Cd.good_of, (Cd.head_iff c).2 (by omega)]
      rfl
    clear HG l0 l1 l2 l3 l4 l5 hB hB2 r0 r1 r2
    go_enter Tryz.func41, Tryz.ntmps41
    go_wp2
    clear f0 f1 f2 f3 f4 f5 q0 q1 q2 q3 q4 hw0 hw1 hs0
    go_loopw [5] (fun v wr => ∃ k : Nat, v = .int .i64 k ∧ k ≤ c.ins.length ∧ Hid (∀ j, (hj : j < c.ins.length) → j < k → Cd.okIns p c j c.ins[j] = true) ∧ Hid (Below w1.heap.size w1 wr)) (fun v _ => c.ins.length - (intOf v).toNat)
    case atStart => exact ⟨0, rfl, by omega, fun j _ hj => by omega, Below.refl _ _⟩
    case round =>
      obtain ⟨k, rfl, hk, HK, HBR⟩ := hrel
      obtain ⟨p0, p1, p2⟩ := HBP.out wr HBR.out
      obtain ⟨q0, q1, q2, q3, q4⟩ := HBC.out wr HBR.out
      have HB : Hid (Below w.heap.size w wr) := HB1.out.trans (HBR.out.mono HB1.out.size)
      by_cases hlt : k < c.ins.length
      · have hlti : (k : Int) < (c.ins.length : Int) := by omega
        have hop := rIns_any p c _ _ _ _ k wr (HP.out.below HB.out) (HI.out.below HB.out) hl hlt
        obtain ⟨E, hE⟩ : ∃ E, E = Cd.okIns p c k c.ins[k] := ⟨_, rfl⟩
        rw [← hE] at hop
        have HE0 := Lib.hid hE
        clear hE
        cases E with
        | false =>
          have HE : Hid (G = false) := by show _ = _; rw [HG2.out, Cd.allIns_no hlt HE0.out.symm]; rfl
          clear HE0
          go_wp2_with (go_at_call 59; refine hop.mono ?_; clear hop; rintro e w9 ⟨rfl, hb9⟩; have HB9 := Lib.hid hb9; clear hb9)
          go_ret
          exact ⟨by rw [HE.out]; rfl, HB.out.trans (HB9.out.mono HB.out.size)⟩
        | true =>
          go_wp2_with (go_at_call 59; refine hop.mono ?_; clear hop; rintro e w9 ⟨rfl, hb9⟩; have HB9 := Lib.hid hb9; clear hb9)
          go_roundw
          case rel =>
            refine ⟨k + 1, by simp, by omega, fun j hj hjk => ?_, HBR.out.trans (HB9.out.mono HBR.out.size)⟩
            by_cases e : j = k
            · subst e
              exact HE0.out.symm
            · exact HK.out j hj (by omega)
          case measure => simp [intOf]; omega
      · have hge : (c.ins.length : Int) ≤ (k : Int) := by omega
        have hall : ∀ j, (hj : j < c.ins.length) → Cd.okIns p c j c.ins[j] = true := fun j hj => HK.out j hj (by omega)
        have hg3 := HG2.out
        rw [Cd.allIns_yes hall, Bool.true_and] at hg3
        have hfl := rdepths_any (p := p) c _ wr (HI.out.below HB.out) hln.1 hln.2 (fun j hj => Cd.okIns_ok (hall j hj)) HWF.out
        clear hall HK HG2 hlt
        cases hf : Cd.flowW c.ins 0 (Cd.start c.ins.length) 0 with
        | none =>
          rw [hf] at hfl hg3
          unfold Cd.FlowPost at hfl
          have HE : Hid (G = false) := hg3
          clear hg3 hf
          go_wp2_with (go_at_call 60; refine hfl.mono ?_; clear hfl; rintro e w9 ⟨rfl, hb9⟩; have HB9 := Lib.hid hb9; clear hb9)
          go_ret
          exact ⟨by rw [HE.out]; rfl, HB.out.trans (HB9.out.mono HB.out.size)⟩
        | some r =>
          obtain ⟨fin, most⟩ := r
          rw [hf] at hfl hg3
          unfold Cd.FlowPost at hfl
          simp only at hfl hg3
          have HC : Hid (∀ W, Below wr.heap.size wr W → W.cell? ⟨w.heap.size + 1, 3, none⟩ = some (.int .i64 c.max)) := fun W hW => (HBC.out W (HBR.out.trans (hW.mono HBR.out.size))).2.2.2.1
          have HG4 := Lib.hid hg3
          clear hg3 hf
          by_cases h1 : most = c.max
          · have h1' : (c.max == most) = true := beq_iff_eq.2 h1.symm
            by_cases h2 : most ≤ 256
            · have h2' : decide (most ≤ 256) = true := decide_eq_true h2
              have HE : Hid (G = true) := by show _ = _; rw [HG4.out, decide_eq_true h1, decide_eq_true h2]; rfl
              clear HG4 h1 h2
              go_wp2_with (go_at_call 60; refine hfl.mono ?_; clear hfl; rintro e w9 ⟨g, rfl, -, -, hb9⟩; have c3 := HC.out w9 hb9; have HB9 := Lib.hid hb9; clear hb9)
              go_ret
              exact ⟨by rw [HE.out]; rfl, HB.out.trans (HB9.out.mono HB.out.size)⟩
            · have h2' : decide (most ≤ 256) = false := decide_eq_false h2
              have HE : Hid (G = false) := by show _ = _; rw [HG4.out, decide_eq_false h2, Bool.and_false]
              clear HG4 h1 h2
              go_wp2_with (go_at_call 60; refine hfl.mono ?_; clear hfl; rintro e w9 ⟨g, rfl, -, -, hb9⟩; have c3 := HC.out w9 hb9; have HB9 := Lib.hid hb9; clear hb9)
              go_ret
              exact ⟨by rw [HE.out]; rfl, HB.out.trans (HB9.out.mono HB.out.size)⟩
          · have h1' : (c.max == most) = false := beq_eq_false_iff_ne.2 (fun e => h1 e.symm)
            have HE : Hid (G = false) := by show _ = _; rw [HG4.out, decide_eq_false h1, Bool.false_and]
            clear HG4 h1
            go_wp2_with (go_at_call 60; refine hfl.mono ?_; clear hfl; rintro e w9 ⟨g, rfl, -, -, hb9⟩; have c3 := HC.out w9 hb9; have HB9 := Lib.hid hb9; clear hb9)
            go_ret
            exact ⟨by rw [HE.out]; rfl, HB.out.trans (HB9.out.mono HB.out.size)⟩
  have g0 : (c.rest != 0) = false := bne_eq_false_iff_eq.2 r0
  by_cases l2 : c.caps < 0
  · have f2 : decide (c.caps < 0) = true := decide_eq_true l2
    have HE : Hid (G = false) := by show _ = _; rw [HG.out]; exact Cd.head_no (by omega) p
    clear HG l0 l1 l2 hB hB2 r0
    go_enter Tryz.func41, Tryz.ntmps41
    go_wp2
    go_ret
    exact ⟨by rw [HE.out]; rfl, HB1.out⟩
  have f2 : decide (c.caps < 0) = false := decide_eq_false l2
  by_cases l3 : 64 < c.caps
  · have f3 : decide (64 < c.caps) = true := decide_eq_true l3
    have HE : Hid (G = false) := by show _ = _; rw [HG.out]; exact Cd.head_no (by omega) p
    clear HG l0 l1 l2 l3 hB hB2 r0
    go_enter Tryz.func41, Tryz.ntmps41
    go_wp2
    go_ret
    exact ⟨by rw [HE.out]; rfl, HB1.out⟩
  have f3 : decide (64 < c.caps) = false := decide_eq_false l3
  by_cases l4 : c.ins.length < 1
  · have f4 : decide ((c.ins.length : Int) < 1) = true := decide_eq_true (by omega)
    have HE : Hid (G = false) := by show _ = _; rw [HG.out]; exact Cd.head_no (by omega) p
    clear HG l0 l1 l2 l3 hB hB2 r0
    go_enter Tryz.func41, Tryz.ntmps41
    go_wp2
    go_ret
    exact ⟨by rw [HE.out]; rfl, HB1.out⟩
  have f4 : decide ((c.ins.length : Int) < 1) = false := decide_eq_false (by omega)
  by_cases l5 : 4096 < c.ins.length
  · have f5 : decide ((4096 : Int) < (c.ins.length : Int)) = true := decide_eq_true (by omega)
    have HE : Hid (G = false) := by show _ = _; rw [HG.out]; exact Cd.head_no (by omega) p
    clear HG l0 l1 l2 l3 l4 hB hB2 r0
    go_enter Tryz.func41, Tryz.ntmps41
    go_wp2
    go_ret
    exact ⟨by rw [HE.out]; rfl, HB1.out⟩
  have f5 : decide ((4096 : Int) < (c.ins.length : Int)) = false := decide_eq_false (by omega)
  have hln : 1 ≤ c.ins.length ∧ c.ins.length ≤ 4096 := ⟨by omega, by omega⟩
  have HG2 : Hid (G = (Cd.allIns p c && (match Cd.flowW c.ins 0 (Cd.start c.ins.length) 0 with
      | some (_, most) => decide (most = c.max) && decide (most ≤ 256)
      | none => false))) := by
    show _ = _
    rw [HG.out, Cd.good_of, (Cd.head_iff c).2 (by omega)]
    rfl
  clear HG l0 l1 l2 l3 l4 l5 hB hB2 r0
  go_enter Tryz.func41, Tryz.ntmps41
  go_wp2
  clear f0 f1 f2 f3 f4 f5 q0 q1 q2 q3 q4 hw0 hw1 hs0
  go_loopw [5] (fun v wr => ∃ k : Nat, v = .int .i64 k ∧ k ≤ c.ins.length ∧ Hid (∀ j, (hj : j < c.ins.length) → j < k → Cd.okIns p c j c.ins[j] = true) ∧ Hid (Below w1.heap.size w1 wr)) (fun v _ => c.ins.length - (intOf v).toNat)
  case atStart => exact ⟨0, rfl, by omega, fun j _ hj => by omega, Below.refl _ _⟩
  case round =>
    obtain ⟨k, rfl, hk, HK, HBR⟩ := hrel
    obtain ⟨p0, p1, p2⟩ := HBP.out wr HBR.out
    obtain ⟨q0, q1, q2, q3, q4⟩ := HBC.out wr HBR.out
    have HB : Hid (Below w.heap.size w wr) := HB1.out.trans (HBR.out.mono HB1.out.size)
    by_cases hlt : k < c.ins.length
    · have hlti : (k : Int) < (c.ins.length : Int) := by omega
      have hop := rIns_any p c _ _ _ _ k wr (HP.out.below HB.out) (HI.out.below HB.out) hl hlt
      obtain ⟨E, hE⟩ : ∃ E, E = Cd.okIns p c k c.ins[k] := ⟨_, rfl⟩
      rw [← hE] at hop
      have HE0 := Lib.hid hE
      clear hE
      cases E with
      | false =>
        have HE : Hid (G = false) := by show _ = _; rw [HG2.out, Cd.allIns_no hlt HE0.out.symm]; rfl
        clear HE0
        go_wp2_with (go_at_call 59; refine hop.mono ?_; clear hop; rintro e w9 ⟨rfl, hb9⟩; have HB9 := Lib.hid hb9; clear hb9)
        go_ret
        exact ⟨by rw [HE.out]; rfl, HB.out.trans (HB9.out.mono HB.out.size)⟩
      | true =>
        go_wp2_with (go_at_call 59; refine hop.mono ?_; clear hop; rintro e w9 ⟨rfl, hb9⟩; have HB9 := Lib.hid hb9; clear hb9)
        go_roundw
        case rel =>
          refine ⟨k + 1, by simp, by omega, fun j hj hjk => ?_, HBR.out.trans (HB9.out.mono HBR.out.size)⟩
          by_cases e : j = k
          · subst e
            exact HE0.out.symm
          · exact HK.out j hj (by omega)
        case measure => simp [intOf]; omega
    · have hge : (c.ins.length : Int) ≤ (k : Int) := by omega
      have hall : ∀ j, (hj : j < c.ins.length) → Cd.okIns p c j c.ins[j] = true := fun j hj => HK.out j hj (by omega)
      have hg3 := HG2.out
      rw [Cd.allIns_yes hall, Bool.true_and] at hg3
      have hfl := rdepths_any (p := p) c _ wr (HI.out.below HB.out) hln.1 hln.2 (fun j hj => Cd.okIns_ok (hall j hj)) HWF.out
      clear hall HK HG2 hlt
      cases hf : Cd.flowW c.ins 0 (Cd.start c.ins.length) 0 with
      | none =>
        rw [hf] at hfl hg3
        unfold Cd.FlowPost at hfl
        have HE : Hid (G = false) := hg3
        clear hg3 hf
        go_wp2_with (go_at_call 60; refine hfl.mono ?_; clear hfl; rintro e w9 ⟨rfl, hb9⟩; have HB9 := Lib.hid hb9; clear hb9)
        go_ret
        exact ⟨by rw [HE.out]; rfl, HB.out.trans (HB9.out.mono HB.out.size)⟩
      | some r =>
        obtain ⟨fin, most⟩ := r
        rw [hf] at hfl hg3
        unfold Cd.FlowPost at hfl
        simp only at hfl hg3
        have HC : Hid (∀ W, Below wr.heap.size wr W → W.cell? ⟨w.heap.size + 1, 3, none⟩ = some (.int .i64 c.max)) := fun W hW => (HBC.out W (HBR.out.trans (hW.mono HBR.out.size))).2.2.2.1
        have HG4 := Lib.hid hg3
        clear hg3 hf
        by_cases h1 : most = c.max
        · have h1' : (c.max == most) = true := beq_iff_eq.2 h1.symm
          by_cases h2 : most ≤ 256
          · have h2' : decide (most ≤ 256) = true := decide_eq_true h2
            have HE : Hid (G = true) := by show _ = _; rw [HG4.out, decide_eq_true h1, decide_eq_true h2]; rfl
            clear HG4 h1 h2
            go_wp2_with (go_at_call 60; refine hfl.mono ?_; clear hfl; rintro e w9 ⟨g, rfl, -, -, hb9⟩; have c3 := HC.out w9 hb9; have HB9 := Lib.hid hb9; clear hb9)
            go_ret
            exact ⟨by rw [HE.out]; rfl, HB.out.trans (HB9.out.mono HB.out.size)⟩
          · have h2' : decide (most ≤ 256) = false := decide_eq_false h2
            have HE : Hid (G = false) := by show _ = _; rw [HG4.out, decide_eq_false h2, Bool.and_false]
            clear HG4 h1 h2
            go_wp2_with (go_at_call 60; refine hfl.mono ?_; clear hfl; rintro e w9 ⟨g, rfl, -, -, hb9⟩; have c3 := HC.out w9 hb9; have HB9 := Lib.hid hb9; clear hb9)
            go_ret
            exact ⟨by rw [HE.out]; rfl, HB.out.trans (HB9.out.mono HB.out.size)⟩
        · have h1' : (c.max == most) = false := beq_eq_false_iff_ne.2 (fun e => h1 e.symm)
          have HE : Hid (G = false) := by show _ = _; rw [HG4.out, decide_eq_false h1, Bool.false_and]
          clear HG4 h1
          go_wp2_with (go_at_call 60; refine hfl.mono ?_; clear hfl; rintro e w9 ⟨g, rfl, -, -, hb9⟩; have c3 := HC.out w9 hb9; have HB9 := Lib.hid hb9; clear hb9)
          go_ret
          exact ⟨by rw [HE.out]; rfl, HB.out.trans (HB9.out.mono HB.out.size)⟩
end Go.Proofs.YtlckjphnbfahgaaGreatDoor
