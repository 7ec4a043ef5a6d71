/-
  The walk of TableNone.
-/
import Derived.Test.YtihfflinkmceaaaTbNone
import Derived.Deep.RegionHeld3
namespace Go.Proofs.Ytihfflinkmceaaa
open Go.RowKit Go.Sort
namespace Tb
theorem dr {w w' : World} (h : Below w.drew.heap.size w.drew w') : Below w.heap.size w w' := ((Below.refl _ w).drew).trans h
theorem three_new (w : World) (x y z : Value) : (w.alloc (.cells #[x, y, z] 33)).cell? ⟨w.heap.size, 0, none⟩ = some x ∧ (w.alloc (.cells #[x, y, z] 33)).cell? ⟨w.heap.size, 1, none⟩ = some y ∧ (w.alloc (.cells #[x, y, z] 33)).cell? ⟨w.heap.size, 2, none⟩ = some z := by
  have h := World.alloc_heap_new w (.cells #[x, y, z] 33)
  exact ⟨by unfold World.cell?; rw [h]; rfl, by unfold World.cell?; rw [h]; rfl, by unfold World.cell?; rw [h]; rfl⟩
end Tb
set_option maxRecDepth 100000 in
set_option maxHeartbeats 8000000 in
theorem TableNone_walk (d n : Int) (s : ByteArray) (w : World) :
    Calls Try.prog 5 #[.agg #[.int .i64 d, .string s, .int .i64 n]] w fun e w' => e = .returned (.bool true) ∧ Below w.heap.size w w' := by
  have hc3 := Tb.three_new w (.int .i64 d) (.string s) (.int .i64 n)
  have hba : Below w.heap.size w (w.alloc (.cells #[.int .i64 d, .string s, .int .i64 n] 33)) := (Below.refl _ w).alloc (Nat.le_refl _) _
  have hla : w.heap.size < (w.alloc (.cells #[.int .i64 d, .string s, .int .i64 n] 33)).heap.size := by simp
  obtain ⟨wa, hwa⟩ : ∃ wa, w.alloc (.cells #[.int .i64 d, .string s, .int .i64 n] 33) = wa := ⟨_, rfl⟩
  rw [hwa] at hc3 hba hla
  obtain ⟨c0, c1, c2⟩ := hc3
  by_cases hs : 1000 < s.size
  · have hsi : (1000 : Int) < (s.size : Int) := by omega
    go_enter Try.func5, Try.ntmps5
    go_wp2_with fail
    refine (awake_any wa).mono ?_
    rintro e w1 ⟨rfl, hb1⟩
    go_wp2
    go_ret
    exact ⟨rfl, hba.trans (hb1.mono hba.size)⟩
  have hsi : ¬ (1000 : Int) < (s.size : Int) := by omega
  go_enter Try.func5, Try.ntmps5
  go_wp2_with fail
  -- HERE
  obtain ⟨O, hO⟩ : ∃ O, w.heap.size = O := ⟨_, rfl⟩
  obtain ⟨Z, hZ⟩ : ∃ Z, wa.heap.size = Z := ⟨_, rfl⟩
  have hbz : Below wa.heap.size wa (wa.alloc (.cells #[.int .i64 0, .map none, .map none, .map none, .map none, .map none, .map none, .map none, .map none, .map none, .map none, .map none, .map none, .map none, .map none, .map none, .map none, .int .i64 0] 57)) := (Below.refl _ wa).alloc (Nat.le_refl _) _
  have hzc : (wa.alloc (.cells #[.int .i64 0, .map none, .map none, .map none, .map none, .map none, .map none, .map none, .map none, .map none, .map none, .map none, .map none, .map none, .map none, .map none, .map none, .int .i64 0] 57)).cell? ⟨wa.heap.size, 0, none⟩ = some (.int .i64 0) := by
    unfold World.cell?; rw [World.alloc_heap_new]; rfl
  have hzs : (wa.alloc (.cells #[.int .i64 0, .map none, .map none, .map none, .map none, .map none, .map none, .map none, .map none, .map none, .map none, .map none, .map none, .map none, .map none, .map none, .map none, .int .i64 0] 57)).heap.size = wa.heap.size + 1 := by simp
  obtain ⟨wz, hwz⟩ : ∃ wz, wa.alloc (.cells #[.int .i64 0, .map none, .map none, .map none, .map none, .map none, .map none, .map none, .map none, .map none, .map none, .map none, .map none, .map none, .map none, .map none, .map none, .int .i64 0] 57) = wz := ⟨_, rfl⟩
  rw [hwz] at hbz hzc hzs
  rw [hwz]
  have hb1 : Below wz.heap.size wz (wz.alloc (.cells #[.pointer none, .pointer (some ⟨wa.heap.size, 0, none⟩)] 25)) := (Below.refl _ wz).alloc (Nat.le_refl _) _
  have hsh := World.alloc_heap_new wz (.cells #[.pointer none, .pointer (some ⟨wa.heap.size, 0, none⟩)] 25)
  have hs1 : (wz.alloc (.cells #[.pointer none, .pointer (some ⟨wa.heap.size, 0, none⟩)] 25)).heap.size = wz.heap.size + 1 := by simp
  obtain ⟨w1, hw1⟩ : ∃ w1, wz.alloc (.cells #[.pointer none, .pointer (some ⟨wa.heap.size, 0, none⟩)] 25) = w1 := ⟨_, rfl⟩
  rw [hw1] at hb1 hsh hs1
  rw [hw1]
  have hb01 : Below w.heap.size w w1 := (hba.trans (hbz.mono hba.size)).trans (hb1.mono (Nat.le_trans hba.size hbz.size))
  have hbA1 : Below wa.heap.size wa w1 := hbz.trans (hb1.mono hbz.size)
  have hz1 := (hb1.cell (p := ⟨wa.heap.size, 0, none⟩) (by show wa.heap.size < wz.heap.size; omega)).trans hzc
  have hS : wz.heap.size = Z + 1 := by omega
  have HP : Hid (∀ k w', k < 2 → Below w1.heap.size w1 w' → ∃ p, w'.cell? ⟨Z + 1, k, none⟩ = some (.pointer p) ∧ Tb.NoT w' p) := by
    intro k w' hk hb
    have hc : ∀ j, w'.cell? ⟨Z + 1, j, none⟩ = #[Value.pointer none, .pointer (some ⟨wa.heap.size, 0, none⟩)][j]? := fun j => by
      rw [hb.cell (p := ⟨Z + 1, j, none⟩) (by show Z + 1 < w1.heap.size; omega)]
      unfold World.cell?
      rw [← hS, hsh]; rfl
    have hk2 : k = 0 ∨ k = 1 := by omega
    rcases hk2 with rfl | rfl
    · exact ⟨none, hc 0, .inl rfl⟩
    · exact ⟨_, hc 1, .inr ⟨_, rfl, (hb.cell (p := ⟨wa.heap.size, 0, none⟩) (by show wa.heap.size < _; omega)).trans hz1⟩⟩
  have HO : Hid (∀ w', Below w1.heap.size w1 w' → w'.cell? ⟨O, 0, none⟩ = some (.int .i64 d) ∧ w'.cell? ⟨O, 1, none⟩ = some (.string s) ∧ w'.cell? ⟨O, 2, none⟩ = some (.int .i64 n)) := by
    intro w' hb
    have hl1 : w.heap.size < w1.heap.size := by omega
    have e : ∀ j, w'.cell? ⟨O, j, none⟩ = wa.cell? ⟨O, j, none⟩ := fun j => by
      rw [← hO]
      exact (hb.cell (p := ⟨w.heap.size, j, none⟩) hl1).trans (hbA1.cell (p := ⟨w.heap.size, j, none⟩) hla)
    rw [e, e, e, ← hO]
    exact ⟨c0, c1, c2⟩
  have HB1 := Lib.hid hb01
  rw [hO, hZ]
  clear hbz hzc hzs hb1 hsh hs1 hz1 hS hbA1 hb01 hw1 hwz hwa hba hla c0 c1 c2 hZ
  go_loopw [21] (fun vi wr => ∃ (k : Nat), vi = .int .i64 k ∧ k ≤ 2 ∧ Hid (Below w1.heap.size w1 wr)) (fun vi _ => 2 - (intOf vi).toNat)
  case atStart => exact ⟨0, rfl, by omega, Below.refl _ _⟩
  case round =>
    obtain ⟨k, rfl, hk, HB⟩ := hrel
    by_cases hlt : k < 2
    case neg =>
      obtain rfl : k = 2 := by omega
      go_wp2_with fail
      refine (awake_any wr).mono ?_
      rintro e wE ⟨rfl, hbE⟩
      have hfin := HB1.out.trans ((HB.out.trans (hbE.mono HB.out.size)).mono HB1.out.size)
      clear hbE
      go_wp2
      go_ret
      exact ⟨rfl, hfin⟩
    have hlti : (k : Int) < 2 := by omega
    obtain ⟨p, hpc, hno⟩ := HP.out k wr hlt HB.out
    have HN := Lib.hid hno
    obtain ⟨o0, o1, o2⟩ := HO.out wr HB.out
    clear hno
    go_wp2_with fail
    refine (Get_no p s wr HN.out).mono ?_
    rintro e wG ⟨rfl, hbG⟩
    have q := Tb.pair_new wG (.int .i64 0) (.int .i64 0)
    have hbA : Below wG.heap.size wG (wG.alloc (.cells #[.int .i64 0, .int .i64 0] 37)) := (Below.refl _ wG).alloc (Nat.le_refl _) _
    have hlA : wG.heap.size < (wG.alloc (.cells #[.int .i64 0, .int .i64 0] 37)).heap.size := by simp
    have HNA := Lib.hid ((HN.out.below hbG).below hbA)
    have HBA := Lib.hid ((HB.out.trans (hbG.mono HB.out.size)).trans (hbA.mono (Nat.le_trans HB.out.size hbG.size)))
    obtain ⟨wA, hwA⟩ : ∃ wA, wA = wG.alloc (.cells #[.int .i64 0, .int .i64 0] 37) := ⟨_, rfl⟩
    rw [← hwA] at q hbA hlA HNA HBA
    obtain ⟨Y, hY⟩ : ∃ Y, wG.heap.size = Y := ⟨_, rfl⟩
    have HQ : Hid (∀ w', Below wA.heap.size wA w' → w'.cell? ⟨Y, 0, none⟩ = some (.int .i64 0) ∧ w'.cell? ⟨Y, 1, none⟩ = some (.int .i64 0)) := by
      intro w' hb
      rw [← hY]
      exact ⟨(hb.cell (p := ⟨wG.heap.size, 0, none⟩) hlA).trans q.1, (hb.cell (p := ⟨wG.heap.size, 1, none⟩) hlA).trans q.2⟩
    clear hbG hbA q hlA o0 o2 hpc
    go_wp2_with fail
    rw [← hwA]
    clear o1 hwA hY
    have HMKw7 : Hid (∀ w', Below wA.heap.size wA w' → w'.cell? ⟨O, 0, none⟩ = some (.int .i64 d) ∧ w'.cell? ⟨O, 1, none⟩ = some (.string s) ∧ w'.cell? ⟨O, 2, none⟩ = some (.int .i64 n)) := fun w' hb => HO.out w' (HBA.out.trans (hb.mono HBA.out.size))
    go_wp2_with fail
    go_region_held3 (fun w' => w'.cell? ⟨O, 0, none⟩ = some (.int .i64 d) ∧ w'.cell? ⟨O, 1, none⟩ = some (.string s) ∧ w'.cell? ⟨O, 2, none⟩ = some (.int .i64 n)) (first | exact HMKw7.out _ ((Below.refl _ _).drew) | exact HMKw7.out _ ((Tb.dr hw6).trans (hw7.mono (Tb.dr hw6).size)) | exact HMKw7.out _ (Tb.dr hw6))
      (first | (go_at_call 12; refine (value_any d n s _).mono ?_; rintro e w6 ⟨rfl, hw6⟩) | (go_at_call 11; refine (Assign_no p s 1 n _ (HNA.out.below (Tb.dr hw6))).mono ?_; rintro e w7 ⟨rfl, hw7⟩))
    have hw7' : Below wA.heap.size wA w7 := (Tb.dr hw6).trans (hw7.mono (Tb.dr hw6).size)
    have HN7 := Lib.hid (HNA.out.below hw7')
    have HB7 := Lib.hid (HBA.out.trans (hw7'.mono HBA.out.size))
    have HC7 := Lib.hid hw7'
    have HMKw9 : Hid (∀ w', Below w7.heap.size w7 w' → w'.cell? ⟨O, 0, none⟩ = some (.int .i64 d) ∧ w'.cell? ⟨O, 1, none⟩ = some (.string s) ∧ w'.cell? ⟨O, 2, none⟩ = some (.int .i64 n)) := fun w' hb => HO.out w' (HB7.out.trans (hb.mono HB7.out.size))
    go_wp2_with fail
    go_region_held3 (fun w' => w'.cell? ⟨O, 0, none⟩ = some (.int .i64 d) ∧ w'.cell? ⟨O, 1, none⟩ = some (.string s) ∧ w'.cell? ⟨O, 2, none⟩ = some (.int .i64 n)) (first | exact HMKw9.out _ ((Below.refl _ _).drew) | exact HMKw9.out _ ((Tb.dr hw8).trans (hw9.mono (Tb.dr hw8).size)) | exact HMKw9.out _ (Tb.dr hw8))
      (first | (go_at_call 12; refine (value_any d n s _).mono ?_; rintro e w8 ⟨rfl, hw8⟩) | (go_at_call 13; refine (Define_no p s 1 n _ (HN7.out.below (Tb.dr hw8))).mono ?_; rintro e w9 ⟨rfl, hw9⟩))
    have hw9' : Below w7.heap.size w7 w9 := (Tb.dr hw8).trans (hw9.mono (Tb.dr hw8).size)
    have HN9 := Lib.hid (HN7.out.below hw9')
    have HB9 := Lib.hid (HB7.out.trans (hw9'.mono HB7.out.size))
    have HC9 := Lib.hid (HC7.out.trans (hw9'.mono HC7.out.size))
    obtain ⟨y0, y1⟩ := HQ.out _ HC9.out
    obtain ⟨z0, z1, z2⟩ := HO.out _ HB9.out
    have hbx : Below w9.heap.size w9 (w9.alloc (.cells #[.pointer p] 25)) := (Below.refl _ w9).alloc (Nat.le_refl _) _
    have hxc : (w9.alloc (.cells #[.pointer p] 25)).cell? ⟨w9.heap.size, 0, none⟩ = some (.pointer p) := by
      unfold World.cell?; rw [World.alloc_heap_new]; rfl
    have htold := told_no p w9.heap.size (w9.alloc (.cells #[.pointer p] 25)) (by simp) hxc (HN9.out.below hbx)
    have HBX := Lib.hid (HB9.out.trans (hbx.mono HB9.out.size))
    have HNX := Lib.hid (HN9.out.below hbx)
    clear hw8 hw9 hw9' hw6 hw7 hw7' HC7 HC9 HBA HB7 hbx hxc
    go_wp2_with fail
    refine (Shard_no p s w9 HN9.out).mono ?_
    rintro e wx ⟨rfl, rfl⟩
    go_wp2_with fail
    refine (Len_no p w9 HN9.out).mono ?_
    rintro e wx ⟨rfl, rfl⟩
    go_wp2_with fail
    refine (Shards_no p w9 HN9.out).mono ?_
    rintro e wx ⟨rfl, rfl⟩
    go_wp2_with fail
    refine (All_any p w9).mono ?_
    rintro e wx ⟨rfl, rfl⟩
    go_wp2_with fail
    refine htold.mono ?_
    rintro e wT ⟨⟨a, c, rfl⟩, hbT⟩
    have HNT := Lib.hid (HNX.out.below hbT)
    have HBT := Lib.hid (HBX.out.trans (hbT.mono HBX.out.size))
    clear htold hbT
    go_wp2_with fail
    refine (Clone_no p wT HNT.out).mono ?_
    rintro e wx ⟨rfl, rfl⟩
    go_wp2
    go_roundw
    case rel => exact ⟨k + 1, by simp, by omega, HBT⟩
    case measure => simp [intOf]; omega
end Go.Proofs.Ytihfflinkmceaaa
