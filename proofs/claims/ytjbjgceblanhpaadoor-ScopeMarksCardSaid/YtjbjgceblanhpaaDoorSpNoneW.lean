/-
  shuttlelaw05.ScopeNone: its walk.
-/
import Derived.Test.YtjbjgceblanhpaaDoorSpNone
import Derived.Test.YtjbjgceblanhpaaDoorSpSmall
namespace Go.Proofs.YtjbjgceblanhpaaDoor
open Go.RowKit
attribute [local go_sem] Oper.semAt_some
namespace Sp
open Dt
def dz : D := .mk 0 0 ⟨#[]⟩ [] [] []
theorem wfz : Wf dz := by unfold dz; rw [Wf]; simp [Wfs]; decide
/-- one act, as it lies in a new row -/
theorem orow_one {w wN : World} {x y : D} {d s t n : Int} {a1 a2 a3 b1 b2 b3 : Option Addr} {q1 q2 q3 r1 r2 r3 : Nat} (hN : w.alloc (.cells #[.int .i64 d, .int .i64 s, .int .i64 t, .int .i64 x.k, .int .i64 x.n, .string x.s, .slice a1 x.m.length q1, .slice a2 x.l.length q2, .slice a3 x.t.length q3, .int .i64 y.k, .int .i64 y.n, .string y.s, .slice b1 y.m.length r1, .slice b2 y.l.length r2, .slice b3 y.t.length r3, .int .i64 n] 30) = wN)
    (hx : Rep (fun _ => True) w x (.slice a1 x.m.length q1) (.slice a2 x.l.length q2) (.slice a3 x.t.length q3)) (hy : Rep (fun _ => True) w y (.slice b1 y.m.length r1) (.slice b2 y.l.length r2) (.slice b3 y.t.length r3)) (hwx : Wf x) (hwy : Wf y) :
    ORow (fun _ => True) wN (.slice (some ⟨w.heap.size, 0, none⟩) 1 1) [⟨d, s, t, x, y, n⟩] := by
  obtain ⟨hb, hs, hc, -⟩ := below_new (Below.refl _ w) hN (Nat.le_refl _)
  have cc : ∀ i v, #[Value.int .i64 d, .int .i64 s, .int .i64 t, .int .i64 x.k, .int .i64 x.n, .string x.s, .slice a1 x.m.length q1, .slice a2 x.l.length q2, .slice a3 x.t.length q3, .int .i64 y.k, .int .i64 y.n, .string y.s, .slice b1 y.m.length r1, .slice b2 y.l.length r2, .slice b3 y.t.length r3, .int .i64 n][i]? = some v → wN.cell? ⟨w.heap.size, i, none⟩ = some v := fun i v h => by unfold World.cell?; rw [hc]; exact h
  refine ⟨some ⟨w.heap.size, 0, none⟩, 1, rfl, Nat.le_refl _, fun _ => ⟨w.heap.size, 0, rfl, trivial, by omega, fun j hj => ?_⟩⟩
  obtain rfl : j = 0 := by simpa using hj
  exact ⟨⟨cc 0 _ rfl, cc 1 _ rfl, cc 2 _ rfl, cc 15 _ rfl⟩, ⟨_, _, _, ⟨cc 3 _ rfl, cc 4 _ rfl, cc 5 _ rfl, cc 6 _ rfl, cc 7 _ rfl, cc 8 _ rfl⟩, hx.below hb⟩, ⟨_, _, _, ⟨cc 9 _ rfl, cc 10 _ rfl, cc 11 _ rfl, cc 12 _ rfl, cc 13 _ rfl, cc 14 _ rfl⟩, hy.below hb⟩, hwx, hwy⟩
theorem two_cells (W : World) (u v : Value) {t t' : TypeId} : ((W.alloc (.cells #[u] t)).alloc (.cells #[v] t')).cell? ⟨W.heap.size, 0, none⟩ = some u ∧ ((W.alloc (.cells #[u] t)).alloc (.cells #[v] t')).cell? ⟨W.heap.size + 1, 0, none⟩ = some v := by
  obtain ⟨-, h1, h2, -⟩ := two_alloc (Below.refl _ W) (o := .cells #[u] t) (o' := .cells #[v] t') rfl (Nat.le_refl _)
  exact ⟨by unfold World.cell?; rw [h2]; rfl, by unfold World.cell?; rw [h1]; rfl⟩
end Sp
set_option maxRecDepth 100000 in
set_option maxHeartbeats 8000000 in
theorem ScopeNone_walk (s : Int) (x : Dt.D) (vm vL vt : Value) (w : World) (hW : Dt.Wf x) (hR : Dt.Rep (fun _ => True) w x vm vL vt) (hT : Sp.T10 w) :
    Calls Tryd.prog 7 #[.int .i64 s, .agg #[.int .i64 x.k, .int .i64 x.n, .string x.s, vm, vL, vt]] w fun e w' => e = .returned (.bool true) ∧ Below w.heap.size w w' := by
  obtain ⟨⟨a1, q1, rfl, -⟩, ⟨a2, q2, rfl, -⟩, ⟨a3, q3, rfl, -⟩⟩ := (Dt.rep_iff _ _ _ _ _ _).1 hR
  obtain ⟨w1, hw1⟩ : ∃ w1, w.alloc (.cells #[.int .i64 x.k, .int .i64 x.n, .string x.s, .slice a1 x.m.length q1, .slice a2 x.l.length q2, .slice a3 x.t.length q3] 26) = w1 := ⟨_, rfl⟩
  have hb1 := (Sp.below_new (Below.refl _ w) hw1 (Nat.le_refl _)).1
  have hbx := Dt.six_new w x.k x.n x.s (.slice a1 x.m.length q1) (.slice a2 x.l.length q2) (.slice a3 x.t.length q3) 26
  rw [hw1] at hbx
  have HBX : Hid (∀ W, Below w1.heap.size w1 W → Dt.Box W w.heap.size x (.slice a1 x.m.length q1) (.slice a2 x.l.length q2) (.slice a3 x.t.length q3)) := fun W h => Dt.Box.below ⟨hbx 0 (by omega), hbx 1 (by omega), hbx 2 (by omega), hbx 3 (by omega), hbx 4 (by omega), hbx 5 (by omega)⟩ h
  obtain ⟨w2, hw2⟩ : ∃ w2, w1.alloc (.cells #[.int .i64 0, .int .i64 0, .int .i64 0, .int .i64 x.k, .int .i64 x.n, .string x.s, .slice a1 x.m.length q1, .slice a2 x.l.length q2, .slice a3 x.t.length q3, .int .i64 0, .int .i64 0, .string ⟨#[]⟩, .slice none 0 0, .slice none 0 0, .slice none 0 0, .int .i64 0] 30) = w2 := ⟨_, rfl⟩
  have hrow := Sp.orow_one (x := x) (y := Sp.dz) hw2 (hR.below hb1) (Dt.rep_zero _ _) hW Sp.wfz
  have hb2 := (Sp.below_new (Below.refl _ w1) hw2 (Nat.le_refl _)).1
  obtain ⟨B, hB⟩ : ∃ B, B = Sp.smallL [⟨0, 0, 0, x, Sp.dz, 0⟩] := ⟨_, rfl⟩
  obtain ⟨V, hV⟩ : ∃ V, V = (if B then Value.slice (some ⟨w1.heap.size, 0, none⟩) 1 1 else .slice none 0 0) := ⟨_, rfl⟩
  have hVf : ∃ a n c, V = .slice a n c := by rw [hV]; split <;> exact ⟨_, _, _, rfl⟩
  have hsm : Calls Tryd.prog 8 #[.slice (some ⟨w1.heap.size, 0, none⟩) 1 1] w2 fun e w' => e = .returned (.tuple #[V, .bool B]) ∧ Below w2.heap.size w2 w' := by
    rw [hV, hB]
    exact spSmall_any (some ⟨w1.heap.size, 0, none⟩) 1 [⟨0, 0, 0, x, Sp.dz, 0⟩] w2 hrow (by show 1 ≤ 140737488355328; omega)
  obtain ⟨va, vn, vc, rfl⟩ := hVf
  have HSM := Lib.hid hsm
  have HBW1 := Lib.hid hb1
  have HB12 := Lib.hid hb2
  have HT := Lib.hid hT
  obtain ⟨b0, b1, b2, b3, b4, b5⟩ := HBX.out w1 (Below.refl _ _)
  clear hB hV hrow hsm hbx hR hW hT hb1 hb2
  have HB2 : Hid (Below w.heap.size w w2) := HBW1.out.trans (HB12.out.mono HBW1.out.size)
  go_enter Tryd.func7, Tryd.ntmps7
  go_wp2_with (go_at_call 8; refine HSM.out.mono ?_; rintro e w3 ⟨rfl, hb3⟩; have HB3 := Lib.hid (HB2.out.trans (hb3.mono HB2.out.size)); have HB13 := Lib.hid (HB12.out.trans (hb3.mono HB12.out.size)); have haw := spAwake_any w3 (HT.out.on HB3.out); clear hb3; refine Hid.out ?_)
  refine Lib.hid ?_
  cases B with
  | false =>
    go_wp2_with (go_at_call 9; refine haw.mono ?_; clear haw; rintro e w4 ⟨rfl, hb4⟩; have HB4 := Lib.hid (HB3.out.trans (hb4.mono HB3.out.size)); have haw := spAwake_any w4 (HT.out.on HB4.out); clear hb4; refine Hid.out ?_)
    refine Lib.hid ?_
    go_wp2_with (go_at_call 9; refine haw.mono ?_; clear haw; rintro e w5 ⟨rfl, hb5⟩; have HB5 := Lib.hid (HB4.out.trans (hb5.mono HB4.out.size)); clear hb5)
    go_ret
    exact ⟨rfl, HB5.out⟩
  | true =>
    go_wp2_with (go_at_call 9; refine haw.mono ?_; clear haw; rintro e w4 ⟨rfl, hb4⟩; have HB4 := Lib.hid (HB3.out.trans (hb4.mono HB3.out.size)); have HB14 := Lib.hid (HB13.out.trans (hb4.mono HB13.out.size)); clear hb4; refine Hid.out ?_)
    refine Lib.hid ?_
    go_wp2_with fail
    obtain ⟨w6, hw6⟩ : ∃ w6, (w4.alloc (.cells #[.slice none 0 0, .map none] 73)).alloc (.cells #[.pointer none, .pointer (some ⟨w4.heap.size, 0, none⟩)] 32) = w6 := ⟨_, rfl⟩
    rw [hw6]
    obtain ⟨hb6, hn6, hz6, hs6⟩ := Sp.two_alloc (Below.refl _ w4) hw6 (Nat.le_refl _)
    have R0 : Hid (w6.cell? ⟨w4.heap.size + 1, 0, none⟩ = some (.pointer none)) := by show _ = _; unfold World.cell?; rw [hn6]; rfl
    have R1 : Hid (w6.cell? ⟨w4.heap.size + 1, 1, none⟩ = some (.pointer (some ⟨w4.heap.size, 0, none⟩))) := by show _ = _; unfold World.cell?; rw [hn6]; rfl
    have Z0 : Hid (w6.cell? ⟨w4.heap.size, 0, none⟩ = some (.slice none 0 0)) := by show _ = _; unfold World.cell?; rw [hz6]; rfl
    have HB6 : Hid (Below w.heap.size w w6) := HB4.out.trans (hb6.mono HB4.out.size)
    have HBXX := Lib.hid (fun W (hW : Below w6.heap.size w6 W) => HBX.out W ((HB14.out.trans (hb6.mono HB14.out.size)).trans (hW.mono (by have := HB14.out.size; have := hb6.size; omega))))
    clear hw6 hb6 hn6 hz6 hs6 b0 b1 b2 b3 b4 b5 HSM
    go_loopw [37] (fun v wr => ∃ i : Nat, v = .int .i64 i ∧ i ≤ 2 ∧ Hid (Below w6.heap.size w6 wr)) (fun v _ => 2 - (intOf v).toNat)
    case atStart => exact ⟨0, rfl, by omega, Below.refl _ _⟩
    case round =>
      obtain ⟨i, rfl, hi, HBI⟩ := hrel
      by_cases hlt2 : i < 2
      · obtain ⟨p, hp, hno⟩ : ∃ p : Option Addr, w6.cell? ⟨w4.heap.size + 1, i, none⟩ = some (.pointer p) ∧ Sp.NoTab w6 (.pointer p) := by
          match i, hlt2 with
          | 0, _ => exact ⟨none, R0.out, .inl rfl⟩
          | 1, _ => exact ⟨some ⟨w4.heap.size, 0, none⟩, R1.out, .inr ⟨w4.heap.size, rfl, Z0.out⟩⟩
        have hi0 : (0 : Int) ≤ (i : Int) := by omega
        have hi2 : (i : Int) < 2 := by omega
        have hpr := (HBI.out.cell (p := ⟨w4.heap.size + 1, i, none⟩) (block_lt_of_cell hp)).trans hp
        have HBc := HBI
        clear HBI
        have HNO := Lib.hid hno
        clear hno hp
        have HE := Lib.hid (fun W (hW : Below w6.heap.size w6 W) => spExtend_no (.pointer p) s x (.slice a1 x.m.length q1) (.slice a2 x.l.length q2) (.slice a3 x.t.length q3) 1 W (HNO.out.below hW))
        have HM := Lib.hid (fun W (hW : Below w6.heap.size w6 W) => spMark_no (.pointer p) s W (HNO.out.below hW))
        have HF := Lib.hid (fun W (hW : Below w6.heap.size w6 W) => spFind_no p s x (.slice a1 x.m.length q1) (.slice a2 x.l.length q2) (.slice a3 x.t.length q3) W (HNO.out.below hW))
        have HS := Lib.hid (fun W (hW : Below w6.heap.size w6 W) => spSame_no p s s x x (.slice a1 x.m.length q1) (.slice a2 x.l.length q2) (.slice a3 x.t.length q3) (.slice a1 x.m.length q1) (.slice a2 x.l.length q2) (.slice a3 x.t.length q3) W (HNO.out.below hW) ⟨_, _, _, _, _, _, _, _, _, rfl, rfl, rfl⟩ ⟨_, _, _, _, _, _, _, _, _, rfl, rfl, rfl⟩)
        have HZ := Lib.hid (fun W (hW : Below w6.heap.size w6 W) => spSizes_no (.pointer p) W (HNO.out.below hW))
        have HC := Lib.hid (fun W (hW : Below w6.heap.size w6 W) => spClone_no (.pointer p) W (HNO.out.below hW))
        have HTO := Lib.hid (fun W (hW : Below w6.heap.size w6 W) => spTold_no 9 p s W.heap.size (W.heap.size + 1) ((W.alloc (.cells #[.pointer p] 32)).alloc (.cells #[.int .i64 s] 3)) (HNO.out.below (hW.trans ((Sp.two_alloc (Below.refl _ W) rfl (Nat.le_refl _)).1.mono hW.size))) (Sp.two_cells W _ _).1 (Sp.two_cells W _ _).2)
        obtain ⟨b0, b1, b2, b3, b4, b5⟩ := HBXX.out _ HBc.out
        go_wp2_with (go_at_call 12; refine (HE.out _ HBc.out).mono ?_; rintro e wn ⟨rfl, hbn⟩; have HBn := Lib.hid (HBc.out.trans (hbn.mono HBc.out.size)); clear hbn; refine Hid.out ?_)
        refine Lib.hid ?_
        obtain ⟨wc, hwc⟩ : ∃ wc, wc = wn := ⟨_, rfl⟩
        rw [← hwc] at HBn ⊢
        clear hwc HBc
        have HBc := HBn
        clear HBn b0 b1 b2 b3 b4 b5
        obtain ⟨b0, b1, b2, b3, b4, b5⟩ := HBXX.out _ HBc.out
        go_wp2_with (go_at_call 16; refine (HM.out _ HBc.out).mono ?_; rintro e wn ⟨rfl, rfl⟩; refine Hid.out ?_)
        refine Lib.hid ?_
        go_wp2_with (go_at_call 11; refine (HF.out _ HBc.out).mono ?_; rintro e wn ⟨rfl, hbn⟩; have HBn := Lib.hid (HBc.out.trans (hbn.mono HBc.out.size)); clear hbn; refine Hid.out ?_)
        refine Lib.hid ?_
        clear b0 b1 b2 b3 b4 b5
        have HSE : Hid ((wn.alloc (.cells #[.int .i64 0, .int .i64 0, .string ⟨#[]⟩] 35)).heap[wn.heap.size]? = some (.cells #[.int .i64 0, .int .i64 0, .string ⟨#[]⟩] 35)) := World.alloc_heap_new _ _
        have HBm : Hid (Below w6.heap.size w6 (wn.alloc (.cells #[.int .i64 0, .int .i64 0, .string ⟨#[]⟩] 35))) := HBn.out.alloc HBn.out.size _
        obtain ⟨b0, b1, b2, b3, b4, b5⟩ := HBXX.out _ HBm.out
        go_wp2_with (go_at_call 15; refine (HS.out _ HBm.out).mono ?_; rintro e wk ⟨rfl, hbk⟩; have HBk := Lib.hid (HBm.out.trans (hbk.mono HBm.out.size)); have HSK := Lib.hid ((hbk.block _ (Array.getElem?_eq_some_iff.1 HSE.out).1).trans HSE.out); clear hbk; refine Hid.out ?_)
        refine Lib.hid ?_
        have e0 : wk.cell? ⟨wn.heap.size, 0, none⟩ = some (.int .i64 0) := by unfold World.cell?; rw [HSK.out]; rfl
        have e1 : wk.cell? ⟨wn.heap.size, 1, none⟩ = some (.int .i64 0) := by unfold World.cell?; rw [HSK.out]; rfl
        have e2 : wk.cell? ⟨wn.heap.size, 2, none⟩ = some (.string ⟨#[]⟩) := by unfold World.cell?; rw [HSK.out]; rfl
        go_wp2_with (first | (go_at_call 20; refine (HZ.out _ HBk.out).mono ?_; rintro e wz ⟨rfl, rfl⟩) | (go_at_call 19; refine (spNames_any p s _).mono ?_; rintro e wz ⟨rfl, rfl⟩) | (go_at_call 18; refine (HTO.out _ HBk.out).mono ?_; rintro e wt ⟨rfl, hbt⟩; have HBt := Lib.hid ((HBk.out.trans ((Sp.two_alloc (Below.refl _ _) rfl (Nat.le_refl _)).1.mono HBk.out.size)).trans (hbt.mono (Nat.le_trans HBk.out.size (Sp.two_alloc (Below.refl _ _) rfl (Nat.le_refl _)).1.size))); clear hbt) | (go_at_call 25; refine (HC.out _ HBt.out).mono ?_; rintro e wz ⟨rfl, rfl⟩))
        go_roundw
        case rel => exact ⟨i + 1, by simp, by omega, HBt⟩
        case measure => simp [intOf]; omega
      · obtain rfl : i = 2 := by omega
        go_wp2
        go_ret
        exact ⟨rfl, HB6.out.trans (HBI.out.mono HB6.out.size)⟩
end Go.Proofs.YtjbjgceblanhpaaDoor
