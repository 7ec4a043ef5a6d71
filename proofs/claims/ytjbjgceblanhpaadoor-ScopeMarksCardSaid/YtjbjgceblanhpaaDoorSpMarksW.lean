/-
  shuttlelaw05.ScopeMarks: its walk.
-/
import Derived.Test.YtjbjgceblanhpaaDoorSpRow
import Derived.Test.YtjbjgceblanhpaaDoorSpMarksP
import Derived.Test.YtjbjgceblanhpaaDoorSpToldN
import Derived.Test.YtjbjgceblanhpaaDoorSpNoneW
import Derived.Test.YtjbjgceblanhpaaDoorSpMkE
import Derived.Deep.Draws
import Derived.Deep.RegionHeld3
import Derived.Deep.DeepCutAuto
namespace Go.Proofs.YtjbjgceblanhpaaDoor
open Go.RowKit
attribute [local go_sem] Oper.semAt_some
set_option maxRecDepth 100000 in
set_option maxHeartbeats 8000000 in
theorem ScopeMarks_walk (a : Option Addr) (c : Nat) (l : List Sp.O) (s other : Int) (x : Dt.D) (vm vL vt : Value) (w : World) (hI : Sp.InRow w a c l) (hWx : Dt.Wf x) (hRx : Dt.Rep (fun _ => True) w x vm vL vt) (hT : Sp.T10 w) :
    Calls Tryd.prog 5 #[.slice a l.length c, .int .i64 s, .int .i64 other, .agg #[.int .i64 x.k, .int .i64 x.n, .string x.s, vm, vL, vt]] w fun e w' => e = .returned (.bool true) ∧ Below w.heap.size w w' := by
  obtain ⟨a1, n1, q1, a2, n2, q2, a3, n3, q3, rfl, rfl, rfl⟩ := hRx.forms
  have HN1 : Hid (n1 = x.m.length) := by show _ = _; obtain ⟨ai, ci, e1, -⟩ := ((Dt.rep_iff _ _ _ _ _ _).1 hRx).1; cases e1; rfl
  obtain ⟨w2, hw2⟩ : ∃ w2, w.alloc (.cells #[.int .i64 x.k, .int .i64 x.n, .string x.s, .slice a1 n1 q1, .slice a2 n2 q2, .slice a3 n3 q3] 26) = w2 := ⟨_, rfl⟩
  have hb2 : Below w.heap.size w w2 := by rw [← hw2]; exact (Below.refl _ _).alloc (Nat.le_refl _) _
  have hbx := Dt.six_new w x.k x.n x.s (.slice a1 n1 q1) (.slice a2 n2 q2) (.slice a3 n3 q3) 26
  rw [hw2] at hbx
  have hx2 : Dt.Box w2 w.heap.size x (.slice a1 n1 q1) (.slice a2 n2 q2) (.slice a3 n3 q3) := ⟨hbx 0 (by omega), hbx 1 (by omega), hbx 2 (by omega), hbx 3 (by omega), hbx 4 (by omega), hbx 5 (by omega)⟩
  obtain ⟨i0, hi, hz0, hz1, hz2⟩ := info_parts Sp.infoO
  obtain ⟨k, hk⟩ : ∃ k, k = min l.length 50 := ⟨_, rfl⟩
  have hkl : k ≤ l.length := by omega
  have hk50 : k ≤ 50 := by omega
  have hlc : l.length ≤ c := by obtain ⟨a', c', e, h, _⟩ := hI.row; obtain ⟨-, -, rfl⟩ := Sp.slice_inj e; exact h
  have hl63 := hI.len
  have hkc : k ≤ c := by omega
  have hkci : (k : Int) ≤ (c : Int) := by omega
  have hmin : min (l.length : Int) 50 = (k : Int) := by omega
  obtain ⟨vs, hv1, hv2, hv3, hv4⟩ := hI.src k hkl
  have HFL : Hid ((Sp.flatO vs).length = k * 16) := by show _ = _; rw [Sp.flatO_length, hv2]
  have HONE := Lib.hid (Sp.flat_one hv3)
  have HSRC : Hid (∀ u, Below w2.heap.size w2 u → Ap.Src u (.slice a k c) k (Sp.flatO vs)) := fun u hu => by
    have hbu := hb2.trans (hu.mono hb2.size)
    rcases hv4 with ⟨h1, h2, h3⟩ | ⟨ad, c', h1, h2⟩
    · exact .inl ⟨h1, h2, h3⟩
    · exact .inr ⟨ad, c', h1, fun j v hv => (hbu.cell (World.block_lt_of_cell? w _ (h2 j v hv))).trans (h2 j v hv)⟩
  have hk1 : 0 + k ≤ maxLen := by unfold maxLen; omega
  have hk2 : (0 + k) * 240 ≤ 140737488355328 := by omega
  have hk3 : k + 1 ≤ maxLen := by unfold maxLen; omega
  have hk4 : (k + 1) * 240 ≤ 140737488355328 := by omega
  obtain ⟨ov, hov⟩ : ∃ ov : Sp.OV, ov = ⟨⟨0, 0, 0, x, Sp.dz, 0⟩, .slice a1 n1 q1, .slice a2 n2 q2, .slice a3 n3 q3, .slice none 0 0, .slice none 0 0, .slice none 0 0⟩ := ⟨_, rfl⟩
  have hovc : ov.cells = [.int .i64 0, .int .i64 0, .int .i64 0, .int .i64 x.k, .int .i64 x.n, .string x.s, .slice a1 n1 q1, .slice a2 n2 q2, .slice a3 n3 q3, .int .i64 0, .int .i64 0, .string ⟨#[]⟩, .slice none 0 0, .slice none 0 0, .slice none 0 0, .int .i64 0] := by rw [hov]; rfl
  obtain ⟨L, hL⟩ : ∃ L, L = l.take k ++ [(⟨0, 0, 0, x, Sp.dz, 0⟩ : Sp.O)] := ⟨_, rfl⟩
  have hLm : (vs ++ [ov]).map Sp.OV.x = L := by rw [List.map_append, hv1, hL, hov]; rfl
  have hLl : L.length = k + 1 := by rw [hL, List.length_append, List.length_take]; simp; omega
  have HLL := Lib.hid hLl
  have HSM : Hid (∀ v8 w8, w8.ownsRow w2.heap.size 30 16 v8 (k + 1) (Sp.flatO vs ++ [.int .i64 0, .int .i64 0, .int .i64 0, .int .i64 x.k, .int .i64 x.n, .string x.s, .slice a1 n1 q1, .slice a2 n2 q2, .slice a3 n3 q3, .int .i64 0, .int .i64 0, .string ⟨#[]⟩, .slice none 0 0, .slice none 0 0, .slice none 0 0, .int .i64 0]) → Below w2.heap.size w2 w8 → ∃ g8 c8, v8 = .slice (some ⟨g8, 0, none⟩) (k + 1) c8 ∧
      Calls Tryd.prog 8 #[.slice (some ⟨g8, 0, none⟩) (k + 1) c8] w8 fun e w9 => ∃ V B, e = .returned (.tuple #[V, .bool B]) ∧ (∃ V1 V2 V3, V = .slice V1 V2 V3) ∧ (B = true → V = .slice (some ⟨g8, 0, none⟩) (k + 1) c8 ∧ Sp.ORow (fun _ => True) w9 (.slice (some ⟨g8, 0, none⟩) L.length c8) L) ∧ Below w2.heap.size w2 w9) := by
    intro v8 w8 hown hb8
    have hbb := hb2.trans (hb8.mono hb2.size)
    have hgood : ∀ v ∈ vs ++ [ov], v.Good (fun _ => True) w8 := by
      intro v hv
      rcases List.mem_append.1 hv with hv | hv
      · exact (hv3 v hv).below hbb
      · rw [List.mem_singleton.1 hv, hov]
        exact ⟨hRx.below hbb, Dt.rep_zero _ _, hWx, Sp.wfz⟩
    rw [← hovc, ← Sp.flatO_one, ← Sp.flatO_app] at hown
    rcases hown.2 with ⟨rfl, h0⟩ | ⟨g, cap, cur, rfl, -⟩
    · omega
    · have hrow := Sp.ORow.of_own hown (by rw [List.length_append, hv2]; simp) hgood
      rw [hLm] at hrow
      refine ⟨g, cap, rfl, ?_⟩
      rw [show k + 1 = L.length by omega]
      refine (spSmall_any _ _ L w8 hrow (by omega)).mono ?_
      rintro e w9 ⟨rfl, hb9⟩
      refine ⟨_, _, rfl, by split <;> exact ⟨_, _, _, rfl⟩, fun hB => ?_, hb8.trans (hb9.mono hb8.size)⟩
      rw [if_pos hB, show min L.length 60 = L.length by omega]
      exact ⟨rfl, hrow.below hb9⟩
  have HBX : Hid (∀ u, Below w2.heap.size w2 u → Dt.Box u w.heap.size x (.slice a1 n1 q1) (.slice a2 n2 q2) (.slice a3 n3 q3)) := fun u hu => hx2.below hu
  have HRX := Lib.hid (hRx.below hb2)
  have HWX := Lib.hid hWx
  have HT := Lib.hid (hT.on hb2)
  have HB2 := Lib.hid hb2
  clear hk hI hv1 hv2 hv3 hv4 hov hovc hL hLm hLl hRx hWx hT hb2 hx2 hlc hbx
  go_enter Tryd.func5, Tryd.ntmps5
  go_upto_region 1 with fail
  go_cut [9, 10] (fun v11 v12 wx => ∃ V1 V2 V3 B g8 c8, v11 = .slice V1 V2 V3 ∧ v12 = .bool B ∧ (B = true → Value.slice V1 V2 V3 = .slice (some ⟨g8, 0, none⟩) (k + 1) c8 ∧ Sp.ORow (fun _ => True) wx (.slice (some ⟨g8, 0, none⟩) L.length c8) L) ∧ Below w2.heap.size w2 wx)
  case first =>
    refine wp_region_noPanic ?_
    refine wp_region_held_drew (S := fun w' => Dt.Box w' w.heap.size x (.slice a1 n1 q1) (.slice a2 n2 q2) (.slice a3 n3 q3)) (by kernel_rfl) (HBX.out _ ((Below.refl _ w2).drew)) (fun hHeld => ?_)
    refine wpAnyH_take (i := 0) (oi := ⟨_, _, _, _, _, _⟩) (v := ?_) rfl (by kernel_rfl) (by kernel_rfl) (by kernel_rfl) (fun _ _ _ h => h) (Or.inl ⟨by rfl, ?_⟩) (by assumption) ?_
    rotate_left
    · intro w hSw
      try dsimp only at hSw
      go_simp
      try with_reducible rfl
    simp only [Act.put, List.setIfInBounds_toArray, List.set_cons_zero, List.set_cons_succ]
    refine wpAnyH_take (i := 1) (oi := ⟨_, _, _, _, _, _⟩) (v := ?_) rfl (by kernel_rfl) (by kernel_rfl) (by kernel_rfl) (fun _ _ _ h => h) (Or.inl ⟨by rfl, ?_⟩) (by assumption) ?_
    rotate_left
    · intro w hSw
      try dsimp only at hSw
      go_simp
      try with_reducible rfl
    simp only [Act.put, List.setIfInBounds_toArray, List.set_cons_zero, List.set_cons_succ]
    refine wpAnyH_take (i := 2) (oi := ⟨_, _, _, _, _, _⟩) (v := ?_) rfl (by kernel_rfl) (by kernel_rfl) (by kernel_rfl) (fun _ _ _ h => h) (Or.inl ⟨by rfl, ?_⟩) (by assumption) ?_
    rotate_left
    · intro w hSw
      try dsimp only at hSw
      go_simp
      try with_reducible rfl
    simp only [Act.put, List.setIfInBounds_toArray, List.set_cons_zero, List.set_cons_succ]
    refine wpAnyH_take (i := 3) (oi := ⟨_, _, _, _, _, _⟩) (v := ?_) rfl (by kernel_rfl) (by kernel_rfl) (by kernel_rfl) (fun _ _ _ h => h) (Or.inl ⟨by rfl, ?_⟩) (by assumption) ?_
    rotate_left
    · intro w hSw
      try dsimp only at hSw
      go_simp
      try with_reducible rfl
    simp only [Act.put, List.setIfInBounds_toArray, List.set_cons_zero, List.set_cons_succ]
    refine wpAnyH_take (i := 4) (oi := ⟨_, _, _, _, _, _⟩) (v := ?_) rfl (by kernel_rfl) (by kernel_rfl) (by kernel_rfl) (fun _ _ _ h => h) (Or.inl ⟨by rfl, ?_⟩) (by assumption) ?_
    rotate_left
    · intro w hSw
      try dsimp only at hSw
      go_simp
      try with_reducible rfl
    simp only [Act.put, List.setIfInBounds_toArray, List.set_cons_zero, List.set_cons_succ]
    refine wpAnyH_take (i := 6) (oi := ⟨_, _, _, _, _, _⟩) (v := ?_) rfl (by kernel_rfl) (by kernel_rfl) (by kernel_rfl) (fun _ _ _ h => h) (Or.inl ⟨by rfl, ?_⟩) (by assumption) ?_
    rotate_left
    · intro w hSw
      obtain ⟨g0, g1, g2, g3, g4, g5⟩ := hSw
      go_simp
      try with_reducible rfl
    simp only [Act.put, List.setIfInBounds_toArray, List.set_cons_zero, List.set_cons_succ]
    refine wpAnyH_take (i := 7) (oi := ⟨_, _, _, _, _, _⟩) (v := ?_) rfl (by kernel_rfl) (by kernel_rfl) (by kernel_rfl) (fun _ _ _ h => h) (Or.inl ⟨by rfl, ?_⟩) (by assumption) ?_
    rotate_left
    · intro w hSw
      try dsimp only at hSw
      go_simp
      try with_reducible rfl
    simp only [Act.put, List.setIfInBounds_toArray, List.set_cons_zero, List.set_cons_succ]
    refine wpAnyH_ready (rs := [5, 8]) (by kernel_rfl) (by simp) ?_
    refine AllReadyH.cons (o := ⟨_, _, _, _, _, _⟩) rfl (fun K hK => ?_) ?_
    · refine Ap.step rfl _ _ 22 (by rfl) w2.heap.size 30 i0 (.agg #[.int .i64 0, .int .i64 0, .int .i64 0, .int .i64 0, .int .i64 0, .string ⟨#[]⟩, .slice none 0 0, .slice none 0 0, .slice none 0 0, .int .i64 0, .int .i64 0, .string ⟨#[]⟩, .slice none 0 0, .slice none 0 0, .slice none 0 0, .int .i64 0]) 16 240 Tryd.underlying22 hi hz0 hz1 hz2 rfl (by decide) (.slice none 0 0) 0 [] (by rfl) (World.ownsRow_nil _ _ _ _) (.slice a k c) k (Sp.flatO vs) (by rfl) (HSRC.out _ ((Below.refl _ w2).drew)) HFL.out HONE.out hk1 hk2 (Nat.le_refl _) ?_
      intro va wa hown hg hat
      have HBa : Hid (Below w2.heap.size w2 wa) := Dt.grown_below ((Below.refl _ w2).drew) hg (Nat.le_refl _) (fun k hk => by cases hk)
      obtain ⟨va1, va3, rfl⟩ := Dt.row_form hown
      rw [Nat.zero_add, List.nil_append] at hown
      rw [Nat.zero_add] at hat
      refine hK.out _ _ ?_ (fun hHeld => ?_)
      · exact HBX.out _ HBa.out
      clear hK K
      try simp only [Act.put, List.setIfInBounds_toArray, List.set_cons_zero, List.set_cons_succ]
      simp only [Nat.zero_add]
      refine wpAnyH_ready (rs := [8]) (by kernel_rfl) (by simp) ?_
      refine AllReadyH.cons (o := ⟨_, _, _, _, _, _⟩) rfl (fun K hK => ?_) AllReadyH.nil
      go_simp
      have HB7 : Hid (Below w2.heap.size w2 (wa.alloc (.cells #[.int .i64 0, .int .i64 0, .int .i64 0, .int .i64 x.k, .int .i64 x.n, .string x.s, .slice a1 n1 q1, .slice a2 n2 q2, .slice a3 n3 q3, .int .i64 0, .int .i64 0, .string ⟨#[]⟩, .slice none 0 0, .slice none 0 0, .slice none 0 0, .int .i64 0] 30))) := HBa.out.alloc HBa.out.size _
      refine hK.out _ _ ?_ (fun hHeld => ?_)
      · exact HBX.out _ HB7.out
      clear hK K
      try simp only [Act.put, List.setIfInBounds_toArray, List.set_cons_zero, List.set_cons_succ]
      refine wpAnyH_ready (rs := [9]) (by kernel_rfl) (by simp) ?_
      refine AllReadyH.cons (o := ⟨_, _, _, _, _, _⟩) rfl (fun K hK => ?_) AllReadyH.nil
      refine Ap.step rfl _ _ 22 (by rfl) w2.heap.size 30 i0 (.agg #[.int .i64 0, .int .i64 0, .int .i64 0, .int .i64 0, .int .i64 0, .string ⟨#[]⟩, .slice none 0 0, .slice none 0 0, .slice none 0 0, .int .i64 0, .int .i64 0, .string ⟨#[]⟩, .slice none 0 0, .slice none 0 0, .slice none 0 0, .int .i64 0]) 16 240 Tryd.underlying22 hi hz0 hz1 hz2 rfl (by decide) (.slice va1 k va3) k (Sp.flatO vs) (by rfl) (hown.alloc _) (.slice (some ⟨wa.heap.size, 0, none⟩) 1 1) 1 [.int .i64 0, .int .i64 0, .int .i64 0, .int .i64 x.k, .int .i64 x.n, .string x.s, .slice a1 n1 q1, .slice a2 n2 q2, .slice a3 n3 q3, .int .i64 0, .int .i64 0, .string ⟨#[]⟩, .slice none 0 0, .slice none 0 0, .slice none 0 0, .int .i64 0] (by rfl) (.inr ⟨_, _, rfl, World.news_of_block (cs := #[.int .i64 0, .int .i64 0, .int .i64 0, .int .i64 x.k, .int .i64 x.n, .string x.s, .slice a1 n1 q1, .slice a2 n2 q2, .slice a3 n3 q3, .int .i64 0, .int .i64 0, .string ⟨#[]⟩, .slice none 0 0, .slice none 0 0, .slice none 0 0, .int .i64 0]) (t := 30) (fr := (0, 0)) (heap_alloc_new wa _)⟩) (by rfl) (by simp [Value.oneCell']) hk3 hk4 HB7.out.size ?_
      intro v8 w8 hown8 hg8 hat8
      have HB8 : Hid (Below w2.heap.size w2 w8) := Dt.grown_below HB7.out hg8 (Nat.le_refl _) (fun k hk => (hown.lt k hk).1)
      obtain ⟨g8, c8, rfl, hsm⟩ := HSM.out v8 w8 hown8 HB8.out
      have HSM8 := Lib.hid hsm
      clear hsm
      refine hK.out _ _ ?_ (fun hHeld => ?_)
      · exact HBX.out _ HB8.out
      clear hK K
      try simp only [Act.put, List.setIfInBounds_toArray, List.set_cons_zero, List.set_cons_succ]
      refine wpAnyH_ready (rs := [10]) (by kernel_rfl) (by simp) ?_
      refine AllReadyH.cons (o := ⟨_, _, _, _, _, _⟩) rfl (fun K hK => ?_) AllReadyH.nil
      go_simp
      refine HSM8.out.mono ?_
      rintro e w9 ⟨V, B, rfl, ⟨V1, V2, V3, rfl⟩, hVB, hb9⟩
      have HB9 := Lib.hid hb9
      have HVB := Lib.hid hVB
      clear hVB hb9
      dsimp only
      refine hK.out _ _ ?_ (fun hHeld => ?_)
      · exact HBX.out _ HB9.out
      clear hK K
      try simp only [Act.put, List.setIfInBounds_toArray, List.set_cons_zero, List.set_cons_succ]
      refine wpAnyH_take (i := 11) (oi := ⟨_, _, _, _, _, _⟩) (v := ?_) rfl (by kernel_rfl) (by kernel_rfl) (by kernel_rfl) (fun _ _ _ h => h) (Or.inl ⟨by rfl, ?_⟩) (by assumption) ?_
      rotate_left
      · intro w hSw
        try dsimp only at hSw
        go_simp
        try with_reducible rfl
      simp only [Act.put, List.setIfInBounds_toArray, List.set_cons_zero, List.set_cons_succ]
      refine wpAnyH_take (i := 12) (oi := ⟨_, _, _, _, _, _⟩) (v := ?_) rfl (by kernel_rfl) (by kernel_rfl) (by kernel_rfl) (fun _ _ _ h => h) (Or.inl ⟨by rfl, ?_⟩) (by assumption) ?_
      rotate_left
      · intro w hSw
        try dsimp only at hSw
        go_simp
        try with_reducible rfl
      simp only [Act.put, List.setIfInBounds_toArray, List.set_cons_zero, List.set_cons_succ]
      refine wpAnyH_take (i := 13) (oi := ⟨_, _, _, _, _, _⟩) (v := ?_) rfl (by kernel_rfl) (by kernel_rfl) (by kernel_rfl) (fun _ _ _ h => h) (Or.inl ⟨by rfl, ?_⟩) (by assumption) ?_
      rotate_left
      · intro w hSw
        try dsimp only at hSw
        go_simp
        try with_reducible rfl
      simp only [Act.put, List.setIfInBounds_toArray, List.set_cons_zero, List.set_cons_succ]
      refine wpAnyH_take (i := 14) (oi := ⟨_, _, _, _, _, _⟩) (v := ?_) rfl (by kernel_rfl) (by kernel_rfl) (by kernel_rfl) (fun _ _ _ h => h) (Or.inl ⟨by rfl, ?_⟩) (by assumption) ?_
      rotate_left
      · intro w hSw
        try dsimp only at hSw
        go_simp
        try with_reducible rfl
      simp only [Act.put, List.setIfInBounds_toArray, List.set_cons_zero, List.set_cons_succ]
      refine wpAnyH_take (i := 15) (oi := ⟨_, _, _, _, _, _⟩) (v := ?_) rfl (by kernel_rfl) (by kernel_rfl) (by kernel_rfl) (fun _ _ _ h => h) (Or.inl ⟨by rfl, ?_⟩) (by assumption) ?_
      rotate_left
      · intro w hSw
        try dsimp only at hSw
        go_simp
        try with_reducible rfl
      simp only [Act.put, List.setIfInBounds_toArray, List.set_cons_zero, List.set_cons_succ]
      refine wpAnyH_done (by kernel_rfl) ?_ _
      refine NoPanic.normal ?_
      go_wp2_with fail
      go_meet
      exact ⟨V1, V2, V3, B, g8, c8, rfl, rfl, HVB.out, HB9.out⟩
    refine AllReadyH.cons (o := ⟨_, _, _, _, _, _⟩) rfl (fun K hK => ?_) AllReadyH.nil
    go_simp
    have HB6 : Hid (Below w2.heap.size w2 (w2.drew.alloc (.cells #[.int .i64 0, .int .i64 0, .int .i64 0, .int .i64 x.k, .int .i64 x.n, .string x.s, .slice a1 n1 q1, .slice a2 n2 q2, .slice a3 n3 q3, .int .i64 0, .int .i64 0, .string ⟨#[]⟩, .slice none 0 0, .slice none 0 0, .slice none 0 0, .int .i64 0] 30))) := ((Below.refl _ w2).drew).alloc (Nat.le_refl _) _
    refine hK.out _ _ ?_ (fun hHeld => ?_)
    · exact HBX.out _ HB6.out
    clear hK K
    try simp only [Act.put, List.setIfInBounds_toArray, List.set_cons_zero, List.set_cons_succ]
    refine wpAnyH_ready (rs := [5]) (by kernel_rfl) (by simp) ?_
    refine AllReadyH.cons (o := ⟨_, _, _, _, _, _⟩) rfl (fun K hK => ?_) AllReadyH.nil
    refine Ap.step rfl _ _ 22 (by rfl) w2.heap.size 30 i0 (.agg #[.int .i64 0, .int .i64 0, .int .i64 0, .int .i64 0, .int .i64 0, .string ⟨#[]⟩, .slice none 0 0, .slice none 0 0, .slice none 0 0, .int .i64 0, .int .i64 0, .string ⟨#[]⟩, .slice none 0 0, .slice none 0 0, .slice none 0 0, .int .i64 0]) 16 240 Tryd.underlying22 hi hz0 hz1 hz2 rfl (by decide) (.slice none 0 0) 0 [] (by rfl) (World.ownsRow_nil _ _ _ _) (.slice a k c) k (Sp.flatO vs) (by rfl) (HSRC.out _ HB6.out) HFL.out HONE.out hk1 hk2 HB6.out.size ?_
    intro va wa hown hg hat
    have HBa : Hid (Below w2.heap.size w2 wa) := Dt.grown_below HB6.out hg (Nat.le_refl _) (fun k hk => by cases hk)
    obtain ⟨va1, va3, rfl⟩ := Dt.row_form hown
    rw [Nat.zero_add, List.nil_append] at hown
    rw [Nat.zero_add] at hat
    refine hK.out _ _ ?_ (fun hHeld => ?_)
    · exact HBX.out _ HBa.out
    clear hK K
    try simp only [Act.put, List.setIfInBounds_toArray, List.set_cons_zero, List.set_cons_succ]
    simp only [Nat.zero_add]
    refine wpAnyH_ready (rs := [9]) (by kernel_rfl) (by simp) ?_
    refine AllReadyH.cons (o := ⟨_, _, _, _, _, _⟩) rfl (fun K hK => ?_) AllReadyH.nil
    refine Ap.step rfl _ _ 22 (by rfl) w2.heap.size 30 i0 (.agg #[.int .i64 0, .int .i64 0, .int .i64 0, .int .i64 0, .int .i64 0, .string ⟨#[]⟩, .slice none 0 0, .slice none 0 0, .slice none 0 0, .int .i64 0, .int .i64 0, .string ⟨#[]⟩, .slice none 0 0, .slice none 0 0, .slice none 0 0, .int .i64 0]) 16 240 Tryd.underlying22 hi hz0 hz1 hz2 rfl (by decide) (.slice va1 k va3) k (Sp.flatO vs) (by rfl) (hown) (.slice (some ⟨w2.drew.heap.size, 0, none⟩) 1 1) 1 [.int .i64 0, .int .i64 0, .int .i64 0, .int .i64 x.k, .int .i64 x.n, .string x.s, .slice a1 n1 q1, .slice a2 n2 q2, .slice a3 n3 q3, .int .i64 0, .int .i64 0, .string ⟨#[]⟩, .slice none 0 0, .slice none 0 0, .slice none 0 0, .int .i64 0] (by rfl) (.inr ⟨_, _, rfl, World.news_of_block (cs := #[.int .i64 0, .int .i64 0, .int .i64 0, .int .i64 x.k, .int .i64 x.n, .string x.s, .slice a1 n1 q1, .slice a2 n2 q2, .slice a3 n3 q3, .int .i64 0, .int .i64 0, .string ⟨#[]⟩, .slice none 0 0, .slice none 0 0, .slice none 0 0, .int .i64 0]) (t := 30) (fr := (0, 0)) ((hg.block _ (by simp) (by simp [Value.ownBlock])).trans (heap_alloc_new _ _))⟩) (by rfl) (by simp [Value.oneCell']) hk3 hk4 HBa.out.size ?_
    intro v8 w8 hown8 hg8 hat8
    have HB8 : Hid (Below w2.heap.size w2 w8) := Dt.grown_below HBa.out hg8 (Nat.le_refl _) (fun k hk => (hown.lt k hk).1)
    obtain ⟨g8, c8, rfl, hsm⟩ := HSM.out v8 w8 hown8 HB8.out
    have HSM8 := Lib.hid hsm
    clear hsm
    refine hK.out _ _ ?_ (fun hHeld => ?_)
    · exact HBX.out _ HB8.out
    clear hK K
    try simp only [Act.put, List.setIfInBounds_toArray, List.set_cons_zero, List.set_cons_succ]
    refine wpAnyH_ready (rs := [10]) (by kernel_rfl) (by simp) ?_
    refine AllReadyH.cons (o := ⟨_, _, _, _, _, _⟩) rfl (fun K hK => ?_) AllReadyH.nil
    go_simp
    refine HSM8.out.mono ?_
    rintro e w9 ⟨V, B, rfl, ⟨V1, V2, V3, rfl⟩, hVB, hb9⟩
    have HB9 := Lib.hid hb9
    have HVB := Lib.hid hVB
    clear hVB hb9
    dsimp only
    refine hK.out _ _ ?_ (fun hHeld => ?_)
    · exact HBX.out _ HB9.out
    clear hK K
    try simp only [Act.put, List.setIfInBounds_toArray, List.set_cons_zero, List.set_cons_succ]
    refine wpAnyH_take (i := 11) (oi := ⟨_, _, _, _, _, _⟩) (v := ?_) rfl (by kernel_rfl) (by kernel_rfl) (by kernel_rfl) (fun _ _ _ h => h) (Or.inl ⟨by rfl, ?_⟩) (by assumption) ?_
    rotate_left
    · intro w hSw
      try dsimp only at hSw
      go_simp
      try with_reducible rfl
    simp only [Act.put, List.setIfInBounds_toArray, List.set_cons_zero, List.set_cons_succ]
    refine wpAnyH_take (i := 12) (oi := ⟨_, _, _, _, _, _⟩) (v := ?_) rfl (by kernel_rfl) (by kernel_rfl) (by kernel_rfl) (fun _ _ _ h => h) (Or.inl ⟨by rfl, ?_⟩) (by assumption) ?_
    rotate_left
    · intro w hSw
      try dsimp only at hSw
      go_simp
      try with_reducible rfl
    simp only [Act.put, List.setIfInBounds_toArray, List.set_cons_zero, List.set_cons_succ]
    refine wpAnyH_take (i := 13) (oi := ⟨_, _, _, _, _, _⟩) (v := ?_) rfl (by kernel_rfl) (by kernel_rfl) (by kernel_rfl) (fun _ _ _ h => h) (Or.inl ⟨by rfl, ?_⟩) (by assumption) ?_
    rotate_left
    · intro w hSw
      try dsimp only at hSw
      go_simp
      try with_reducible rfl
    simp only [Act.put, List.setIfInBounds_toArray, List.set_cons_zero, List.set_cons_succ]
    refine wpAnyH_take (i := 14) (oi := ⟨_, _, _, _, _, _⟩) (v := ?_) rfl (by kernel_rfl) (by kernel_rfl) (by kernel_rfl) (fun _ _ _ h => h) (Or.inl ⟨by rfl, ?_⟩) (by assumption) ?_
    rotate_left
    · intro w hSw
      try dsimp only at hSw
      go_simp
      try with_reducible rfl
    simp only [Act.put, List.setIfInBounds_toArray, List.set_cons_zero, List.set_cons_succ]
    refine wpAnyH_take (i := 15) (oi := ⟨_, _, _, _, _, _⟩) (v := ?_) rfl (by kernel_rfl) (by kernel_rfl) (by kernel_rfl) (fun _ _ _ h => h) (Or.inl ⟨by rfl, ?_⟩) (by assumption) ?_
    rotate_left
    · intro w hSw
      try dsimp only at hSw
      go_simp
      try with_reducible rfl
    simp only [Act.put, List.setIfInBounds_toArray, List.set_cons_zero, List.set_cons_succ]
    refine wpAnyH_done (by kernel_rfl) ?_ _
    refine NoPanic.normal ?_
    go_wp2_with fail
    go_meet
    exact ⟨V1, V2, V3, B, g8, c8, rfl, rfl, HVB.out, HB9.out⟩
  case rest =>
    obtain ⟨V1, V2, V3, B, g8, c8, rfl, rfl, hVB, hb9⟩ := hcut
    obtain ⟨w9, hw9⟩ : ∃ w9, w9 = wc := ⟨_, rfl⟩
    rw [← hw9] at hVB hb9 ⊢
    clear hw9
    have HB9 := Lib.hid hb9
    have haw := spAwake_any w9 (HT.out.on HB9.out)
    clear hb9
    cases B with
    | false =>
      clear hVB
      go_wp2_with (go_at_call 9; refine haw.mono ?_; clear haw; rintro e w10 ⟨rfl, hb10⟩; have HB10 := Lib.hid (HB9.out.trans (hb10.mono HB9.out.size)); have haw := spAwake_any w10 (HT.out.on HB10.out); clear hb10; refine Hid.out ?_)
      refine Lib.hid ?_
      go_wp2_with (go_at_call 9; refine haw.mono ?_; clear haw; rintro e w11 ⟨rfl, hb11⟩; have HB11 := Lib.hid (HB10.out.trans (hb11.mono HB10.out.size)); clear hb11)
      go_ret
      exact ⟨rfl, HB2.out.trans (HB11.out.mono HB2.out.size)⟩
    | true =>
      obtain ⟨hV, hrow⟩ := hVB rfl
      clear hVB
      cases hV
      have hlk : (L.take k).length = k := by rw [List.length_take, HLL.out]; omega
      have hpre := hrow.pre k (by rw [HLL.out]; omega)
      rw [hlk] at hpre
      have hkV : k ≤ V3 := by obtain ⟨a', c', e, h, _⟩ := hpre; obtain ⟨-, -, rfl⟩ := Sp.slice_inj e; rw [hlk] at h; exact h
      have HPRE := Lib.hid hpre
      have hkk : ((k + 1 : Nat) : Int) - 1 = (k : Int) := by omega
      have hk0 : (0 : Int) ≤ (k : Int) := by omega
      clear hrow hpre
      go_wp2_with (go_at_call 9; refine haw.mono ?_; clear haw; rintro e w10 ⟨rfl, hb10⟩; have HB10 := Lib.hid (HB9.out.trans (hb10.mono HB9.out.size)); have hmd := spMade_any (F := fun _ => True) (some ⟨g8, 0, none⟩) V3 (L.take k) w10 (by rw [hlk]; exact HPRE.out.below hb10) (by omega) (HT.out.on HB10.out); rw [hlk] at hmd; clear hb10; refine Hid.out ?_)
      refine Lib.hid ?_
      go_wp2_with (go_at_call 10; refine hmd.mono ?_; clear hmd; rintro e w11 ⟨T, vl, mb, xs, rfl, hti, hb11⟩; obtain ⟨t, ht⟩ : ∃ t, t = Sp.madeT (L.take k) := ⟨_, rfl⟩; rw [← ht] at hti; clear ht; have HTI := Lib.hid hti; have HB11 := Lib.hid (HB10.out.trans (hb11.mono HB10.out.size)); have HBL := Lib.hid hb11.size; clear hti hb11; refine Hid.out ?_)
      refine Lib.hid ?_
      obtain ⟨us, uw, un, e1, hu⟩ := Sp.Seen.eta (Sp.find t s x)
      have hf1 : Calls Tryd.prog 11 #[.pointer (some ⟨T, 0, none⟩), .int .i64 s, .agg #[.int .i64 x.k, .int .i64 x.n, .string x.s, .slice a1 n1 q1, .slice a2 n2 q2, .slice a3 n3 q3]] w11 fun e w' => e = .returned (.tuple #[.agg #[.int .i64 (us : Int), .int .i64 uw, .string un], .int .i64 e1]) ∧ Below w11.heap.size w11 w' := by
        have := spFind_any s x _ _ _ w11 HTI.out.tab HWX.out (HRX.out.below HB11.out) (HT.out.on HB11.out)
        rw [hu] at this
        exact this
      obtain ⟨b0, b1, b2, b3, b4, b5⟩ := HBX.out w11 HB11.out
      go_wp2_with (go_at_call 11; refine hf1.mono ?_; clear hf1; rintro e w12 ⟨rfl, hb12⟩; obtain ⟨w13, hw13⟩ : ∃ w13, w12.alloc (.cells #[.int .i64 (us : Int), .int .i64 uw, .string un] 35) = w13 := ⟨_, rfl⟩; have HB13 := Lib.hid (Sp.below_new hb12 hw13 hb12.size); have HL12 := Lib.hid hb12.size; clear hb12; refine Hid.out ?_)
      refine Lib.hid ?_
      have HT13 := Lib.hid (HTI.out.below HB13.out.1)
      have HB213 := Lib.hid (HB11.out.trans (HB13.out.1.mono HB11.out.size))
      have HS13 : Hid (w13.heap[w12.heap.size]? = some (.cells #[.int .i64 (us : Int), .int .i64 uw, .string un] 35)) := HB13.out.2.2.1
      have hmk := spMark_any s w13 HT13.out.tab
      obtain ⟨⟨t', m', f'⟩, hre⟩ : ∃ r, r = Sp.mark t s := ⟨_, rfl⟩
      have HFE : Hid ((Sp.find t s x).2 = e1) := by show _ = _; rw [hu]
      have HRE := Lib.hid hre
      have HU := Lib.hid hu
      rw [← hre] at hmk
      clear hre hu b0 b1 b2 b3 b4 b5
      go_wp2_with (go_at_call 16; refine hmk.mono ?_; clear hmk; rintro e w14 ⟨rfl, htm, hkm⟩; have HT4 := Lib.hid (HT13.out.mark htm hkm); have HK4 := Lib.hid hkm; have HB4 := Lib.hid (HB213.out.trans (hkm.to_below (fun k e => by have e2 : k = mb := e; have := HTI.out.tab.bm; have := HBL.out; have := HB10.out.size; omega) (by have := HB213.out.size; omega))); have HS4 := Lib.hid ((hkm.block w12.heap.size (Array.getElem?_eq_some_iff.1 HS13.out).1 (fun e => by have e2 : w12.heap.size = mb := e; have := HTI.out.tab.mp.lt; have := HL12.out; omega)).trans HS13.out); clear htm hkm; refine Hid.out ?_)
      refine Lib.hid ?_
      obtain ⟨b0, b1, b2, b3, b4, b5⟩ := HBX.out w14 HB4.out
      by_cases h0 : f' = 0
      case neg =>
        have h0' : (f' != 0) = true := by simpa using h0
        clear h0
        go_wp2
        go_ret
        exact ⟨rfl, HB2.out.trans (HB4.out.mono HB2.out.size)⟩
      subst h0
      by_cases h1 : e1 = 0
      case neg =>
        have h1' : (e1 != 0) = true := by simpa using h1
        clear h1
        go_wp2
        go_ret
        exact ⟨rfl, HB2.out.trans (HB4.out.mono HB2.out.size)⟩
      subst h1
      by_cases h2 : n1 < 16
      case neg =>
        have h2' : decide ((16 : Int) ≤ (n1 : Int)) = true := decide_eq_true (by omega)
        have h2'' : (16 : Int) ≤ (n1 : Int) := by omega
        clear h2
        go_wp2
        go_ret
        exact ⟨rfl, HB2.out.trans (HB4.out.mono HB2.out.size)⟩
      have h2' : decide ((16 : Int) ≤ (n1 : Int)) = false := decide_eq_false (by omega)
      have h2'' : ¬ (16 : Int) ≤ (n1 : Int) := by omega
      obtain ⟨hm1, hm2, hm3⟩ := Sp.mark_ok (t := t) (s := s) (by rw [← HRE.out])
      have hmm : m' = (t.m.length : Int) + 1 ∧ t' = ⟨t.l, t.m ++ [s.toNat]⟩ := by have h9 := HRE.out; rw [hm3] at h9; cases h9; exact ⟨rfl, rfl⟩
      obtain ⟨hmm1, hmm2⟩ := hmm
      have HLAW := Lib.hid (Sp.marks_law (other := other) HTI.out.tab.ok HFE.out (by rw [hm3]) (by rw [← HN1.out]; exact h2))
      have HLAW2 : Hid (Sp.isSym (Sp.more x m') = true) := by show _ = _; rw [hmm1]; exact HLAW.out.1
      have HM1 := Lib.hid hm1
      have HMT := Lib.hid hmm2
      have HMM := Lib.hid hmm1
      clear hm1 hm2 hm3 hmm1 hmm2
      go_upto_region 11 with fail
      have hn1 := HN1.out
      subst hn1
      obtain ⟨i1, hi1, hy0, hy1, hy2⟩ := info_parts Dt.infoI
      have INFO6 : Hid ((Tryd.prog.info? 26).map (·.size) = some 6) := Sp.info6
      have hq1 : 0 + x.m.length ≤ maxLen := by unfold maxLen; omega
      have hq2 : (0 + x.m.length) * 8 ≤ 140737488355328 := by omega
      have hq3 : x.m.length + 1 ≤ maxLen := by unfold maxLen; omega
      have hq4 : (x.m.length + 1) * 8 ≤ 140737488355328 := by omega
      have HLEN4 : Hid ((x.m.map (Value.int .i64)).length = x.m.length * 1) := by show _ = _; simp
      have HONE4 : Hid (∀ u ∈ x.m.map (Value.int .i64), u.oneCell' = true) := by intro u hu; obtain ⟨y, _, rfl⟩ := List.mem_map.1 hu; rfl
      have HSRC4 : Hid (∀ u, Below w14.heap.size w14 u → Ap.Src2 u (.slice a1 x.m.length q1) x.m.length (x.m.map (Value.int .i64))) := by
        intro u hu
        have h9 := ((Dt.rep_iff _ _ _ _ _ _).1 (HRX.out.below (HB4.out.trans (hu.mono HB4.out.size)))).1
        rcases h9.src' with h | ⟨h1, h2⟩
        · exact .inl h
        · refine .inr ⟨q1, ?_, ?_, ?_⟩ <;> simp [h1, h2]
      go_cut [16] (fun v16 wx => ∃ b p c, v16 = .pointer (some ⟨b, 0, none⟩) ∧ Hid (Sp.NewAt w14 wx b (Sp.more x m') (.slice p (x.m.length + 1) c)))
      case first =>
        refine wp_region_noPanic ?_
        refine wp_region_held_drew (S := fun w' => Dt.Box w' w.heap.size x (.slice a1 x.m.length q1) (.slice a2 n2 q2) (.slice a3 n3 q3)) (by kernel_rfl) (HBX.out _ (HB4.out.drew)) (fun hHeld => ?_)
        have hmk := Sp.Mk.start w14 x.m m'
        obtain ⟨wx0, hwx⟩ : ∃ u, u = w14.drew := ⟨_, rfl⟩
        rw [← hwx] at hmk hHeld
        rw [← hwx]
        clear hwx
        have HMK0 := Lib.hid hmk
        clear hmk b0 b1 b2 b3 b4 b5
        refine wpAnyH_take (i := 0) (oi := ⟨_, _, _, _, _, _⟩) (v := ?_) rfl (by kernel_rfl) (by kernel_rfl) (by kernel_rfl) (fun _ _ _ h => h) (Or.inl ⟨by rfl, ?_⟩) (by assumption) ?_
        rotate_left
        · intro w hSw
          try dsimp only at hSw
          go_simp
          try with_reducible rfl
        simp only [Act.put, List.setIfInBounds_toArray, List.set_cons_zero, List.set_cons_succ]
        refine wpAnyH_take (i := 1) (oi := ⟨_, _, _, _, _, _⟩) (v := ?_) rfl (by kernel_rfl) (by kernel_rfl) (by kernel_rfl) (fun _ _ _ h => h) (Or.inl ⟨by rfl, ?_⟩) (by assumption) ?_
        rotate_left
        · intro w hSw
          obtain ⟨g0, g1, g2, g3, g4, g5⟩ := hSw
          go_simp
          try with_reducible rfl
        simp only [Act.put, List.setIfInBounds_toArray, List.set_cons_zero, List.set_cons_succ]
        refine wpAnyH_take (i := 2) (oi := ⟨_, _, _, _, _, _⟩) (v := ?_) rfl (by kernel_rfl) (by kernel_rfl) (by kernel_rfl) (fun _ _ _ h => h) (Or.inl ⟨by rfl, ?_⟩) (by assumption) ?_
        rotate_left
        · intro w hSw
          try dsimp only at hSw
          go_simp
          try with_reducible rfl
        simp only [Act.put, List.setIfInBounds_toArray, List.set_cons_zero, List.set_cons_succ]
        refine wpAnyH_take (i := 3) (oi := ⟨_, _, _, _, _, _⟩) (v := ?_) rfl (by kernel_rfl) (by kernel_rfl) (by kernel_rfl) (fun _ _ _ h => h) (Or.inl ⟨by rfl, ?_⟩) (by assumption) ?_
        rotate_left
        · intro w hSw
          obtain ⟨g0, g1, g2, g3, g4, g5⟩ := hSw
          go_simp
          try with_reducible rfl
        simp only [Act.put, List.setIfInBounds_toArray, List.set_cons_zero, List.set_cons_succ]
        refine wpAnyH_take (i := 5) (oi := ⟨_, _, _, _, _, _⟩) (v := ?_) rfl (by kernel_rfl) (by kernel_rfl) (by kernel_rfl) (fun _ _ _ h => h) (Or.inl ⟨by rfl, ?_⟩) (by assumption) ?_
        rotate_left
        · intro w hSw
          try dsimp only at hSw
          go_simp
          try with_reducible rfl
        simp only [Act.put, List.setIfInBounds_toArray, List.set_cons_zero, List.set_cons_succ]
        refine wpAnyH_ready (rs := [4, 6, 9]) (by kernel_rfl) (by simp) ?_
        refine AllReadyH.cons (o := ⟨_, _, _, _, _, _⟩) rfl (fun K hK => ?_) ?_
        · refine Ap.step2 rfl _ _ 23 (by rfl) w14.heap.size 3 i1 (.int .i64 0) 1 8 Tryd.underlying23 hi1 hy0 hy1 hy2 rfl (by decide) (.slice none 0 0) 0 [] (by rfl) (World.ownsRow_nil _ _ _ _) (.slice a1 x.m.length q1) x.m.length (x.m.map (Value.int .i64)) (by rfl) (HSRC4.out _ HMK0.out.bel) HLEN4.out HONE4.out hq1 hq2 HMK0.out.bel.size ?_
          intro va wx1 hown hg hat
          rw [Nat.zero_add, List.nil_append] at hown
          obtain ⟨va1, va3, rfl⟩ := Dt.row_form hown
          have HMK1 := Lib.hid (HMK0.out.s4 hown hg hat)
          clear hown hg hat
          simp only [Nat.zero_add]
          refine hK.out _ _ ?_ (fun hHeld => ?_)
          · exact HBX.out _ (HB4.out.trans (HMK1.out.bel.mono HB4.out.size))
          clear hK K
          try simp only [Act.put, List.setIfInBounds_toArray, List.set_cons_zero, List.set_cons_succ]
          refine wpAnyH_ready (rs := [6, 9]) (by kernel_rfl) (by simp) ?_
          refine AllReadyH.cons (o := ⟨_, _, _, _, _, _⟩) rfl (fun K hK => ?_) ?_
          · go_simp
            have hmk := HMK1.out.s6
            obtain ⟨b6, hb6⟩ : ∃ b, b = wx1.heap.size := ⟨_, rfl⟩
            obtain ⟨wx2, hwY⟩ : ∃ u, u = wx1.alloc (.cells #[.int .i64 m'] 3) := ⟨_, rfl⟩
            rw [show wx1.alloc (.cells #[.int .i64 m'] 3) = wx2 from hwY.symm, ← hb6] at hmk
            rw [← hwY, ← hb6]
            clear hb6 hwY
            have HMK2 := Lib.hid hmk
            clear hmk
            refine hK.out _ _ ?_ (fun hHeld => ?_)
            · exact HBX.out _ (HB4.out.trans (HMK2.out.bel.mono HB4.out.size))
            clear hK K
            try simp only [Act.put, List.setIfInBounds_toArray, List.set_cons_zero, List.set_cons_succ]
            refine wpAnyH_ready (rs := [7, 9]) (by kernel_rfl) (by simp) ?_
            refine AllReadyH.cons (o := ⟨_, _, _, _, _, _⟩) rfl (fun K hK => ?_) ?_
            · refine Ap.step2 rfl _ _ 23 (by rfl) w14.heap.size 3 i1 (.int .i64 0) 1 8 Tryd.underlying23 hi1 hy0 hy1 hy2 rfl (by decide) (.slice va1 x.m.length va3) x.m.length (x.m.map (Value.int .i64)) (by rfl) (HMK2.out.r4 _ rfl) (.slice (some ⟨b6, 0, none⟩) 1 1) 1 [.int .i64 m'] (by rfl) HMK2.out.src (by rfl) (by simp [Value.oneCell']) hq3 hq4 HMK2.out.bel.size ?_
              intro v7 wx3 hown hg hat
              have HMK3 := Lib.hid (HMK2.out.s7 hown hg)
              obtain ⟨p7, c7, rfl⟩ := Dt.row_form hown
              clear hown hg hat
              refine hK.out _ _ ?_ (fun hHeld => ?_)
              · exact HBX.out _ (HB4.out.trans (HMK3.out.bel.mono HB4.out.size))
              clear hK K
              try simp only [Act.put, List.setIfInBounds_toArray, List.set_cons_zero, List.set_cons_succ]
              refine wpAnyH_ready (rs := [8, 9]) (by kernel_rfl) (by simp) ?_
              refine AllReadyH.cons (o := ⟨_, _, _, _, _, _⟩) rfl (fun K hK => ?_) ?_
              · go_simp
                refine (spSym_any x.s p7 (x.m.length + 1) c7 _).mono ?_
                rintro e wx4 ⟨rfl, hb8⟩
                have HMK4 := Lib.hid (HMK3.out.below hb8)
                clear hb8
                dsimp only
                refine hK.out _ _ ?_ (fun hHeld => ?_)
                · exact HBX.out _ (HB4.out.trans (HMK4.out.bel.mono HB4.out.size))
                clear hK K
                try simp only [Act.put, List.setIfInBounds_toArray, List.set_cons_zero, List.set_cons_succ]
                refine wpAnyH_ready (rs := [9]) (by kernel_rfl) (by simp) ?_
                refine AllReadyH.cons (o := ⟨_, _, _, _, _, _⟩) rfl (fun K hK => ?_) AllReadyH.nil
                go_simp
                have hmk := HMK4.out.s9
                obtain ⟨b9, hb9⟩ : ∃ b, b = wx4.heap.size := ⟨_, rfl⟩
                obtain ⟨wx5, hwY⟩ : ∃ u, u = wx4.alloc (.cells #[.int .i64 0, .int .i64 0, .string ⟨#[]⟩, .slice none 0 0, .slice none 0 0, .slice none 0 0] 26) := ⟨_, rfl⟩
                rw [show wx4.alloc (.cells Sp.z6 26) = wx5 from hwY.symm, ← hb9] at hmk
                rw [← hwY, ← hb9]
                clear hb9 hwY
                have HMK5 := Lib.hid hmk
                clear hmk
                refine hK.out _ _ ?_ (fun hHeld => ?_)
                · exact HBX.out _ (HB4.out.trans (HMK5.out.bel.mono HB4.out.size))
                clear hK K
                try simp only [Act.put, List.setIfInBounds_toArray, List.set_cons_zero, List.set_cons_succ]
                refine wpAnyH_ready (rs := [10]) (by kernel_rfl) (by simp) ?_
                refine AllReadyH.cons (o := ⟨_, _, _, _, _, _⟩) rfl (fun K hK => ?_) AllReadyH.nil
                rw [if_pos (by rfl)]
                have HNW : Hid (Sp.NewAt w14 (wx5.setCells b9 0 [.int .i64 5, .int .i64 0, .string x.s, .slice p7 (x.m.length + 1) c7, .slice none 0 0, .slice none 0 0]) b9 (Sp.more x m') (.slice p7 (x.m.length + 1) c7)) := by
                  have h9 := HMK5.out
                  rw [show x.m.length + 1 = (x.m ++ [m']).length by simp] at h9 ⊢
                  exact h9.stored x.s
                refine wp_store_mid _ _ _ rfl b9 0 #[.int .i64 5, .int .i64 0, .string x.s, .slice p7 (x.m.length + 1) c7, .slice none 0 0, .slice none 0 0] rfl rfl HMK5.out.there INFO6.out (by simp [Value.oneCell']) ?_
                refine hK.out _ _ ?_ (fun hHeld => ?_)
                · exact HBX.out _ (HB4.out.trans (HNW.out.2.2.mono HB4.out.size))
                clear hK K
                try simp only [Act.put, List.setIfInBounds_toArray, List.set_cons_zero, List.set_cons_succ]
                refine wpAnyH_done (by kernel_rfl) ?_ _
                refine NoPanic.normal ?_
                go_wp2_with fail
                go_meet
                exact ⟨b9, p7, c7, rfl, HNW⟩
              refine AllReadyH.cons (o := ⟨_, _, _, _, _, _⟩) rfl (fun K hK => ?_) AllReadyH.nil
              go_simp
              have hmk := HMK3.out.s9
              obtain ⟨b9, hb9⟩ : ∃ b, b = wx3.heap.size := ⟨_, rfl⟩
              obtain ⟨wx4, hwY⟩ : ∃ u, u = wx3.alloc (.cells #[.int .i64 0, .int .i64 0, .string ⟨#[]⟩, .slice none 0 0, .slice none 0 0, .slice none 0 0] 26) := ⟨_, rfl⟩
              rw [show wx3.alloc (.cells Sp.z6 26) = wx4 from hwY.symm, ← hb9] at hmk
              rw [← hwY, ← hb9]
              clear hb9 hwY
              have HMK4 := Lib.hid hmk
              clear hmk
              refine hK.out _ _ ?_ (fun hHeld => ?_)
              · exact HBX.out _ (HB4.out.trans (HMK4.out.bel.mono HB4.out.size))
              clear hK K
              try simp only [Act.put, List.setIfInBounds_toArray, List.set_cons_zero, List.set_cons_succ]
              refine wpAnyH_ready (rs := [8]) (by kernel_rfl) (by simp) ?_
              refine AllReadyH.cons (o := ⟨_, _, _, _, _, _⟩) rfl (fun K hK => ?_) AllReadyH.nil
              go_simp
              refine (spSym_any x.s p7 (x.m.length + 1) c7 _).mono ?_
              rintro e wx5 ⟨rfl, hb8⟩
              have HMK5 := Lib.hid (HMK4.out.below hb8)
              clear hb8
              dsimp only
              refine hK.out _ _ ?_ (fun hHeld => ?_)
              · exact HBX.out _ (HB4.out.trans (HMK5.out.bel.mono HB4.out.size))
              clear hK K
              try simp only [Act.put, List.setIfInBounds_toArray, List.set_cons_zero, List.set_cons_succ]
              refine wpAnyH_ready (rs := [10]) (by kernel_rfl) (by simp) ?_
              refine AllReadyH.cons (o := ⟨_, _, _, _, _, _⟩) rfl (fun K hK => ?_) AllReadyH.nil
              rw [if_pos (by rfl)]
              have HNW : Hid (Sp.NewAt w14 (wx5.setCells b9 0 [.int .i64 5, .int .i64 0, .string x.s, .slice p7 (x.m.length + 1) c7, .slice none 0 0, .slice none 0 0]) b9 (Sp.more x m') (.slice p7 (x.m.length + 1) c7)) := by
                have h9 := HMK5.out
                rw [show x.m.length + 1 = (x.m ++ [m']).length by simp] at h9 ⊢
                exact h9.stored x.s
              refine wp_store_mid _ _ _ rfl b9 0 #[.int .i64 5, .int .i64 0, .string x.s, .slice p7 (x.m.length + 1) c7, .slice none 0 0, .slice none 0 0] rfl rfl HMK5.out.there INFO6.out (by simp [Value.oneCell']) ?_
              refine hK.out _ _ ?_ (fun hHeld => ?_)
              · exact HBX.out _ (HB4.out.trans (HNW.out.2.2.mono HB4.out.size))
              clear hK K
              try simp only [Act.put, List.setIfInBounds_toArray, List.set_cons_zero, List.set_cons_succ]
              refine wpAnyH_done (by kernel_rfl) ?_ _
              refine NoPanic.normal ?_
              go_wp2_with fail
              go_meet
              exact ⟨b9, p7, c7, rfl, HNW⟩
            refine AllReadyH.cons (o := ⟨_, _, _, _, _, _⟩) rfl (fun K hK => ?_) AllReadyH.nil
            go_simp
            have hmk := HMK2.out.s9
            obtain ⟨b9, hb9⟩ : ∃ b, b = wx2.heap.size := ⟨_, rfl⟩
            obtain ⟨wx3, hwY⟩ : ∃ u, u = wx2.alloc (.cells #[.int .i64 0, .int .i64 0, .string ⟨#[]⟩, .slice none 0 0, .slice none 0 0, .slice none 0 0] 26) := ⟨_, rfl⟩
            rw [show wx2.alloc (.cells Sp.z6 26) = wx3 from hwY.symm, ← hb9] at hmk
            rw [← hwY, ← hb9]
            clear hb9 hwY
            have HMK3 := Lib.hid hmk
            clear hmk
            refine hK.out _ _ ?_ (fun hHeld => ?_)
            · exact HBX.out _ (HB4.out.trans (HMK3.out.bel.mono HB4.out.size))
            clear hK K
            try simp only [Act.put, List.setIfInBounds_toArray, List.set_cons_zero, List.set_cons_succ]
            refine wpAnyH_ready (rs := [7]) (by kernel_rfl) (by simp) ?_
            refine AllReadyH.cons (o := ⟨_, _, _, _, _, _⟩) rfl (fun K hK => ?_) AllReadyH.nil
            refine Ap.step2 rfl _ _ 23 (by rfl) w14.heap.size 3 i1 (.int .i64 0) 1 8 Tryd.underlying23 hi1 hy0 hy1 hy2 rfl (by decide) (.slice va1 x.m.length va3) x.m.length (x.m.map (Value.int .i64)) (by rfl) (HMK3.out.r4 _ rfl) (.slice (some ⟨b6, 0, none⟩) 1 1) 1 [.int .i64 m'] (by rfl) HMK3.out.src (by rfl) (by simp [Value.oneCell']) hq3 hq4 HMK3.out.bel.size ?_
            intro v7 wx4 hown hg hat
            have HMK4 := Lib.hid (HMK3.out.s7 hown hg)
            obtain ⟨p7, c7, rfl⟩ := Dt.row_form hown
            clear hown hg hat
            refine hK.out _ _ ?_ (fun hHeld => ?_)
            · exact HBX.out _ (HB4.out.trans (HMK4.out.bel.mono HB4.out.size))
            clear hK K
            try simp only [Act.put, List.setIfInBounds_toArray, List.set_cons_zero, List.set_cons_succ]
            refine wpAnyH_ready (rs := [8]) (by kernel_rfl) (by simp) ?_
            refine AllReadyH.cons (o := ⟨_, _, _, _, _, _⟩) rfl (fun K hK => ?_) AllReadyH.nil
            go_simp
            refine (spSym_any x.s p7 (x.m.length + 1) c7 _).mono ?_
            rintro e wx5 ⟨rfl, hb8⟩
            have HMK5 := Lib.hid (HMK4.out.below hb8)
            clear hb8
            dsimp only
            refine hK.out _ _ ?_ (fun hHeld => ?_)
            · exact HBX.out _ (HB4.out.trans (HMK5.out.bel.mono HB4.out.size))
            clear hK K
            try simp only [Act.put, List.setIfInBounds_toArray, List.set_cons_zero, List.set_cons_succ]
            refine wpAnyH_ready (rs := [10]) (by kernel_rfl) (by simp) ?_
            refine AllReadyH.cons (o := ⟨_, _, _, _, _, _⟩) rfl (fun K hK => ?_) AllReadyH.nil
            rw [if_pos (by rfl)]
            have HNW : Hid (Sp.NewAt w14 (wx5.setCells b9 0 [.int .i64 5, .int .i64 0, .string x.s, .slice p7 (x.m.length + 1) c7, .slice none 0 0, .slice none 0 0]) b9 (Sp.more x m') (.slice p7 (x.m.length + 1) c7)) := by
              have h9 := HMK5.out
              rw [show x.m.length + 1 = (x.m ++ [m']).length by simp] at h9 ⊢
              exact h9.stored x.s
            refine wp_store_mid _ _ _ rfl b9 0 #[.int .i64 5, .int .i64 0, .string x.s, .slice p7 (x.m.length + 1) c7, .slice none 0 0, .slice none 0 0] rfl rfl HMK5.out.there INFO6.out (by simp [Value.oneCell']) ?_
            refine hK.out _ _ ?_ (fun hHeld => ?_)
            · exact HBX.out _ (HB4.out.trans (HNW.out.2.2.mono HB4.out.size))
            clear hK K
            try simp only [Act.put, List.setIfInBounds_toArray, List.set_cons_zero, List.set_cons_succ]
            refine wpAnyH_done (by kernel_rfl) ?_ _
            refine NoPanic.normal ?_
            go_wp2_with fail
            go_meet
            exact ⟨b9, p7, c7, rfl, HNW⟩
          refine AllReadyH.cons (o := ⟨_, _, _, _, _, _⟩) rfl (fun K hK => ?_) AllReadyH.nil
          go_simp
          have hmk := HMK1.out.s9
          obtain ⟨b9, hb9⟩ : ∃ b, b = wx1.heap.size := ⟨_, rfl⟩
          obtain ⟨wx2, hwY⟩ : ∃ u, u = wx1.alloc (.cells #[.int .i64 0, .int .i64 0, .string ⟨#[]⟩, .slice none 0 0, .slice none 0 0, .slice none 0 0] 26) := ⟨_, rfl⟩
          rw [show wx1.alloc (.cells Sp.z6 26) = wx2 from hwY.symm, ← hb9] at hmk
          rw [← hwY, ← hb9]
          clear hb9 hwY
          have HMK2 := Lib.hid hmk
          clear hmk
          refine hK.out _ _ ?_ (fun hHeld => ?_)
          · exact HBX.out _ (HB4.out.trans (HMK2.out.bel.mono HB4.out.size))
          clear hK K
          try simp only [Act.put, List.setIfInBounds_toArray, List.set_cons_zero, List.set_cons_succ]
          refine wpAnyH_ready (rs := [6]) (by kernel_rfl) (by simp) ?_
          refine AllReadyH.cons (o := ⟨_, _, _, _, _, _⟩) rfl (fun K hK => ?_) AllReadyH.nil
          go_simp
          have hmk := HMK2.out.s6
          obtain ⟨b6, hb6⟩ : ∃ b, b = wx2.heap.size := ⟨_, rfl⟩
          obtain ⟨wx3, hwY⟩ : ∃ u, u = wx2.alloc (.cells #[.int .i64 m'] 3) := ⟨_, rfl⟩
          rw [show wx2.alloc (.cells #[.int .i64 m'] 3) = wx3 from hwY.symm, ← hb6] at hmk
          rw [← hwY, ← hb6]
          clear hb6 hwY
          have HMK3 := Lib.hid hmk
          clear hmk
          refine hK.out _ _ ?_ (fun hHeld => ?_)
          · exact HBX.out _ (HB4.out.trans (HMK3.out.bel.mono HB4.out.size))
          clear hK K
          try simp only [Act.put, List.setIfInBounds_toArray, List.set_cons_zero, List.set_cons_succ]
          refine wpAnyH_ready (rs := [7]) (by kernel_rfl) (by simp) ?_
          refine AllReadyH.cons (o := ⟨_, _, _, _, _, _⟩) rfl (fun K hK => ?_) AllReadyH.nil
          refine Ap.step2 rfl _ _ 23 (by rfl) w14.heap.size 3 i1 (.int .i64 0) 1 8 Tryd.underlying23 hi1 hy0 hy1 hy2 rfl (by decide) (.slice va1 x.m.length va3) x.m.length (x.m.map (Value.int .i64)) (by rfl) (HMK3.out.r4 _ rfl) (.slice (some ⟨b6, 0, none⟩) 1 1) 1 [.int .i64 m'] (by rfl) HMK3.out.src (by rfl) (by simp [Value.oneCell']) hq3 hq4 HMK3.out.bel.size ?_
          intro v7 wx4 hown hg hat
          have HMK4 := Lib.hid (HMK3.out.s7 hown hg)
          obtain ⟨p7, c7, rfl⟩ := Dt.row_form hown
          clear hown hg hat
          refine hK.out _ _ ?_ (fun hHeld => ?_)
          · exact HBX.out _ (HB4.out.trans (HMK4.out.bel.mono HB4.out.size))
          clear hK K
          try simp only [Act.put, List.setIfInBounds_toArray, List.set_cons_zero, List.set_cons_succ]
          refine wpAnyH_ready (rs := [8]) (by kernel_rfl) (by simp) ?_
          refine AllReadyH.cons (o := ⟨_, _, _, _, _, _⟩) rfl (fun K hK => ?_) AllReadyH.nil
          go_simp
          refine (spSym_any x.s p7 (x.m.length + 1) c7 _).mono ?_
          rintro e wx5 ⟨rfl, hb8⟩
          have HMK5 := Lib.hid (HMK4.out.below hb8)
          clear hb8
          dsimp only
          refine hK.out _ _ ?_ (fun hHeld => ?_)
          · exact HBX.out _ (HB4.out.trans (HMK5.out.bel.mono HB4.out.size))
          clear hK K
          try simp only [Act.put, List.setIfInBounds_toArray, List.set_cons_zero, List.set_cons_succ]
          refine wpAnyH_ready (rs := [10]) (by kernel_rfl) (by simp) ?_
          refine AllReadyH.cons (o := ⟨_, _, _, _, _, _⟩) rfl (fun K hK => ?_) AllReadyH.nil
          rw [if_pos (by rfl)]
          have HNW : Hid (Sp.NewAt w14 (wx5.setCells b9 0 [.int .i64 5, .int .i64 0, .string x.s, .slice p7 (x.m.length + 1) c7, .slice none 0 0, .slice none 0 0]) b9 (Sp.more x m') (.slice p7 (x.m.length + 1) c7)) := by
            have h9 := HMK5.out
            rw [show x.m.length + 1 = (x.m ++ [m']).length by simp] at h9 ⊢
            exact h9.stored x.s
          refine wp_store_mid _ _ _ rfl b9 0 #[.int .i64 5, .int .i64 0, .string x.s, .slice p7 (x.m.length + 1) c7, .slice none 0 0, .slice none 0 0] rfl rfl HMK5.out.there INFO6.out (by simp [Value.oneCell']) ?_
          refine hK.out _ _ ?_ (fun hHeld => ?_)
          · exact HBX.out _ (HB4.out.trans (HNW.out.2.2.mono HB4.out.size))
          clear hK K
          try simp only [Act.put, List.setIfInBounds_toArray, List.set_cons_zero, List.set_cons_succ]
          refine wpAnyH_done (by kernel_rfl) ?_ _
          refine NoPanic.normal ?_
          go_wp2_with fail
          go_meet
          exact ⟨b9, p7, c7, rfl, HNW⟩
        refine AllReadyH.cons (o := ⟨_, _, _, _, _, _⟩) rfl (fun K hK => ?_) ?_
        · go_simp
          have hmk := HMK0.out.s6
          obtain ⟨b6, hb6⟩ : ∃ b, b = wx0.heap.size := ⟨_, rfl⟩
          obtain ⟨wx1, hwY⟩ : ∃ u, u = wx0.alloc (.cells #[.int .i64 m'] 3) := ⟨_, rfl⟩
          rw [show wx0.alloc (.cells #[.int .i64 m'] 3) = wx1 from hwY.symm, ← hb6] at hmk
          rw [← hwY, ← hb6]
          clear hb6 hwY
          have HMK1 := Lib.hid hmk
          clear hmk
          refine hK.out _ _ ?_ (fun hHeld => ?_)
          · exact HBX.out _ (HB4.out.trans (HMK1.out.bel.mono HB4.out.size))
          clear hK K
          try simp only [Act.put, List.setIfInBounds_toArray, List.set_cons_zero, List.set_cons_succ]
          refine wpAnyH_ready (rs := [4, 9]) (by kernel_rfl) (by simp) ?_
          refine AllReadyH.cons (o := ⟨_, _, _, _, _, _⟩) rfl (fun K hK => ?_) ?_
          · refine Ap.step2 rfl _ _ 23 (by rfl) w14.heap.size 3 i1 (.int .i64 0) 1 8 Tryd.underlying23 hi1 hy0 hy1 hy2 rfl (by decide) (.slice none 0 0) 0 [] (by rfl) (World.ownsRow_nil _ _ _ _) (.slice a1 x.m.length q1) x.m.length (x.m.map (Value.int .i64)) (by rfl) (HSRC4.out _ HMK1.out.bel) HLEN4.out HONE4.out hq1 hq2 HMK1.out.bel.size ?_
            intro va wx2 hown hg hat
            rw [Nat.zero_add, List.nil_append] at hown
            obtain ⟨va1, va3, rfl⟩ := Dt.row_form hown
            have HMK2 := Lib.hid (HMK1.out.s4 hown hg hat)
            clear hown hg hat
            simp only [Nat.zero_add]
            refine hK.out _ _ ?_ (fun hHeld => ?_)
            · exact HBX.out _ (HB4.out.trans (HMK2.out.bel.mono HB4.out.size))
            clear hK K
            try simp only [Act.put, List.setIfInBounds_toArray, List.set_cons_zero, List.set_cons_succ]
            refine wpAnyH_ready (rs := [7, 9]) (by kernel_rfl) (by simp) ?_
            refine AllReadyH.cons (o := ⟨_, _, _, _, _, _⟩) rfl (fun K hK => ?_) ?_
            · refine Ap.step2 rfl _ _ 23 (by rfl) w14.heap.size 3 i1 (.int .i64 0) 1 8 Tryd.underlying23 hi1 hy0 hy1 hy2 rfl (by decide) (.slice va1 x.m.length va3) x.m.length (x.m.map (Value.int .i64)) (by rfl) (HMK2.out.r4 _ rfl) (.slice (some ⟨b6, 0, none⟩) 1 1) 1 [.int .i64 m'] (by rfl) HMK2.out.src (by rfl) (by simp [Value.oneCell']) hq3 hq4 HMK2.out.bel.size ?_
              intro v7 wx3 hown hg hat
              have HMK3 := Lib.hid (HMK2.out.s7 hown hg)
              obtain ⟨p7, c7, rfl⟩ := Dt.row_form hown
              clear hown hg hat
              refine hK.out _ _ ?_ (fun hHeld => ?_)
              · exact HBX.out _ (HB4.out.trans (HMK3.out.bel.mono HB4.out.size))
              clear hK K
              try simp only [Act.put, List.setIfInBounds_toArray, List.set_cons_zero, List.set_cons_succ]
              refine wpAnyH_ready (rs := [8, 9]) (by kernel_rfl) (by simp) ?_
              refine AllReadyH.cons (o := ⟨_, _, _, _, _, _⟩) rfl (fun K hK => ?_) ?_
              · go_simp
                refine (spSym_any x.s p7 (x.m.length + 1) c7 _).mono ?_
                rintro e wx4 ⟨rfl, hb8⟩
                have HMK4 := Lib.hid (HMK3.out.below hb8)
                clear hb8
                dsimp only
                refine hK.out _ _ ?_ (fun hHeld => ?_)
                · exact HBX.out _ (HB4.out.trans (HMK4.out.bel.mono HB4.out.size))
                clear hK K
                try simp only [Act.put, List.setIfInBounds_toArray, List.set_cons_zero, List.set_cons_succ]
                refine wpAnyH_ready (rs := [9]) (by kernel_rfl) (by simp) ?_
                refine AllReadyH.cons (o := ⟨_, _, _, _, _, _⟩) rfl (fun K hK => ?_) AllReadyH.nil
                go_simp
                have hmk := HMK4.out.s9
                obtain ⟨b9, hb9⟩ : ∃ b, b = wx4.heap.size := ⟨_, rfl⟩
                obtain ⟨wx5, hwY⟩ : ∃ u, u = wx4.alloc (.cells #[.int .i64 0, .int .i64 0, .string ⟨#[]⟩, .slice none 0 0, .slice none 0 0, .slice none 0 0] 26) := ⟨_, rfl⟩
                rw [show wx4.alloc (.cells Sp.z6 26) = wx5 from hwY.symm, ← hb9] at hmk
                rw [← hwY, ← hb9]
                clear hb9 hwY
                have HMK5 := Lib.hid hmk
                clear hmk
                refine hK.out _ _ ?_ (fun hHeld => ?_)
                · exact HBX.out _ (HB4.out.trans (HMK5.out.bel.mono HB4.out.size))
                clear hK K
                try simp only [Act.put, List.setIfInBounds_toArray, List.set_cons_zero, List.set_cons_succ]
                refine wpAnyH_ready (rs := [10]) (by kernel_rfl) (by simp) ?_
                refine AllReadyH.cons (o := ⟨_, _, _, _, _, _⟩) rfl (fun K hK => ?_) AllReadyH.nil
                rw [if_pos (by rfl)]
                have HNW : Hid (Sp.NewAt w14 (wx5.setCells b9 0 [.int .i64 5, .int .i64 0, .string x.s, .slice p7 (x.m.length + 1) c7, .slice none 0 0, .slice none 0 0]) b9 (Sp.more x m') (.slice p7 (x.m.length + 1) c7)) := by
                  have h9 := HMK5.out
                  rw [show x.m.length + 1 = (x.m ++ [m']).length by simp] at h9 ⊢
                  exact h9.stored x.s
                refine wp_store_mid _ _ _ rfl b9 0 #[.int .i64 5, .int .i64 0, .string x.s, .slice p7 (x.m.length + 1) c7, .slice none 0 0, .slice none 0 0] rfl rfl HMK5.out.there INFO6.out (by simp [Value.oneCell']) ?_
                refine hK.out _ _ ?_ (fun hHeld => ?_)
                · exact HBX.out _ (HB4.out.trans (HNW.out.2.2.mono HB4.out.size))
                clear hK K
                try simp only [Act.put, List.setIfInBounds_toArray, List.set_cons_zero, List.set_cons_succ]
                refine wpAnyH_done (by kernel_rfl) ?_ _
                refine NoPanic.normal ?_
                go_wp2_with fail
                go_meet
                exact ⟨b9, p7, c7, rfl, HNW⟩
              refine AllReadyH.cons (o := ⟨_, _, _, _, _, _⟩) rfl (fun K hK => ?_) AllReadyH.nil
              go_simp
              have hmk := HMK3.out.s9
              obtain ⟨b9, hb9⟩ : ∃ b, b = wx3.heap.size := ⟨_, rfl⟩
              obtain ⟨wx4, hwY⟩ : ∃ u, u = wx3.alloc (.cells #[.int .i64 0, .int .i64 0, .string ⟨#[]⟩, .slice none 0 0, .slice none 0 0, .slice none 0 0] 26) := ⟨_, rfl⟩
              rw [show wx3.alloc (.cells Sp.z6 26) = wx4 from hwY.symm, ← hb9] at hmk
              rw [← hwY, ← hb9]
              clear hb9 hwY
              have HMK4 := Lib.hid hmk
              clear hmk
              refine hK.out _ _ ?_ (fun hHeld => ?_)
              · exact HBX.out _ (HB4.out.trans (HMK4.out.bel.mono HB4.out.size))
              clear hK K
              try simp only [Act.put, List.setIfInBounds_toArray, List.set_cons_zero, List.set_cons_succ]
              refine wpAnyH_ready (rs := [8]) (by kernel_rfl) (by simp) ?_
              refine AllReadyH.cons (o := ⟨_, _, _, _, _, _⟩) rfl (fun K hK => ?_) AllReadyH.nil
              go_simp
              refine (spSym_any x.s p7 (x.m.length + 1) c7 _).mono ?_
              rintro e wx5 ⟨rfl, hb8⟩
              have HMK5 := Lib.hid (HMK4.out.below hb8)
              clear hb8
              dsimp only
              refine hK.out _ _ ?_ (fun hHeld => ?_)
              · exact HBX.out _ (HB4.out.trans (HMK5.out.bel.mono HB4.out.size))
              clear hK K
              try simp only [Act.put, List.setIfInBounds_toArray, List.set_cons_zero, List.set_cons_succ]
              refine wpAnyH_ready (rs := [10]) (by kernel_rfl) (by simp) ?_
              refine AllReadyH.cons (o := ⟨_, _, _, _, _, _⟩) rfl (fun K hK => ?_) AllReadyH.nil
              rw [if_pos (by rfl)]
              have HNW : Hid (Sp.NewAt w14 (wx5.setCells b9 0 [.int .i64 5, .int .i64 0, .string x.s, .slice p7 (x.m.length + 1) c7, .slice none 0 0, .slice none 0 0]) b9 (Sp.more x m') (.slice p7 (x.m.length + 1) c7)) := by
                have h9 := HMK5.out
                rw [show x.m.length + 1 = (x.m ++ [m']).length by simp] at h9 ⊢
                exact h9.stored x.s
              refine wp_store_mid _ _ _ rfl b9 0 #[.int .i64 5, .int .i64 0, .string x.s, .slice p7 (x.m.length + 1) c7, .slice none 0 0, .slice none 0 0] rfl rfl HMK5.out.there INFO6.out (by simp [Value.oneCell']) ?_
              refine hK.out _ _ ?_ (fun hHeld => ?_)
              · exact HBX.out _ (HB4.out.trans (HNW.out.2.2.mono HB4.out.size))
              clear hK K
              try simp only [Act.put, List.setIfInBounds_toArray, List.set_cons_zero, List.set_cons_succ]
              refine wpAnyH_done (by kernel_rfl) ?_ _
              refine NoPanic.normal ?_
              go_wp2_with fail
              go_meet
              exact ⟨b9, p7, c7, rfl, HNW⟩
            refine AllReadyH.cons (o := ⟨_, _, _, _, _, _⟩) rfl (fun K hK => ?_) AllReadyH.nil
            go_simp
            have hmk := HMK2.out.s9
            obtain ⟨b9, hb9⟩ : ∃ b, b = wx2.heap.size := ⟨_, rfl⟩
            obtain ⟨wx3, hwY⟩ : ∃ u, u = wx2.alloc (.cells #[.int .i64 0, .int .i64 0, .string ⟨#[]⟩, .slice none 0 0, .slice none 0 0, .slice none 0 0] 26) := ⟨_, rfl⟩
            rw [show wx2.alloc (.cells Sp.z6 26) = wx3 from hwY.symm, ← hb9] at hmk
            rw [← hwY, ← hb9]
            clear hb9 hwY
            have HMK3 := Lib.hid hmk
            clear hmk
            refine hK.out _ _ ?_ (fun hHeld => ?_)
            · exact HBX.out _ (HB4.out.trans (HMK3.out.bel.mono HB4.out.size))
            clear hK K
            try simp only [Act.put, List.setIfInBounds_toArray, List.set_cons_zero, List.set_cons_succ]
            refine wpAnyH_ready (rs := [7]) (by kernel_rfl) (by simp) ?_
            refine AllReadyH.cons (o := ⟨_, _, _, _, _, _⟩) rfl (fun K hK => ?_) AllReadyH.nil
            refine Ap.step2 rfl _ _ 23 (by rfl) w14.heap.size 3 i1 (.int .i64 0) 1 8 Tryd.underlying23 hi1 hy0 hy1 hy2 rfl (by decide) (.slice va1 x.m.length va3) x.m.length (x.m.map (Value.int .i64)) (by rfl) (HMK3.out.r4 _ rfl) (.slice (some ⟨b6, 0, none⟩) 1 1) 1 [.int .i64 m'] (by rfl) HMK3.out.src (by rfl) (by simp [Value.oneCell']) hq3 hq4 HMK3.out.bel.size ?_
            intro v7 wx4 hown hg hat
            have HMK4 := Lib.hid (HMK3.out.s7 hown hg)
            obtain ⟨p7, c7, rfl⟩ := Dt.row_form hown
            clear hown hg hat
            refine hK.out _ _ ?_ (fun hHeld => ?_)
            · exact HBX.out _ (HB4.out.trans (HMK4.out.bel.mono HB4.out.size))
            clear hK K
            try simp only [Act.put, List.setIfInBounds_toArray, List.set_cons_zero, List.set_cons_succ]
            refine wpAnyH_ready (rs := [8]) (by kernel_rfl) (by simp) ?_
            refine AllReadyH.cons (o := ⟨_, _, _, _, _, _⟩) rfl (fun K hK => ?_) AllReadyH.nil
            go_simp
            refine (spSym_any x.s p7 (x.m.length + 1) c7 _).mono ?_
            rintro e wx5 ⟨rfl, hb8⟩
            have HMK5 := Lib.hid (HMK4.out.below hb8)
            clear hb8
            dsimp only
            refine hK.out _ _ ?_ (fun hHeld => ?_)
            · exact HBX.out _ (HB4.out.trans (HMK5.out.bel.mono HB4.out.size))
            clear hK K
            try simp only [Act.put, List.setIfInBounds_toArray, List.set_cons_zero, List.set_cons_succ]
            refine wpAnyH_ready (rs := [10]) (by kernel_rfl) (by simp) ?_
            refine AllReadyH.cons (o := ⟨_, _, _, _, _, _⟩) rfl (fun K hK => ?_) AllReadyH.nil
            rw [if_pos (by rfl)]
            have HNW : Hid (Sp.NewAt w14 (wx5.setCells b9 0 [.int .i64 5, .int .i64 0, .string x.s, .slice p7 (x.m.length + 1) c7, .slice none 0 0, .slice none 0 0]) b9 (Sp.more x m') (.slice p7 (x.m.length + 1) c7)) := by
              have h9 := HMK5.out
              rw [show x.m.length + 1 = (x.m ++ [m']).length by simp] at h9 ⊢
              exact h9.stored x.s
            refine wp_store_mid _ _ _ rfl b9 0 #[.int .i64 5, .int .i64 0, .string x.s, .slice p7 (x.m.length + 1) c7, .slice none 0 0, .slice none 0 0] rfl rfl HMK5.out.there INFO6.out (by simp [Value.oneCell']) ?_
            refine hK.out _ _ ?_ (fun hHeld => ?_)
            · exact HBX.out _ (HB4.out.trans (HNW.out.2.2.mono HB4.out.size))
            clear hK K
            try simp only [Act.put, List.setIfInBounds_toArray, List.set_cons_zero, List.set_cons_succ]
            refine wpAnyH_done (by kernel_rfl) ?_ _
            refine NoPanic.normal ?_
            go_wp2_with fail
            go_meet
            exact ⟨b9, p7, c7, rfl, HNW⟩
          refine AllReadyH.cons (o := ⟨_, _, _, _, _, _⟩) rfl (fun K hK => ?_) AllReadyH.nil
          go_simp
          have hmk := HMK1.out.s9
          obtain ⟨b9, hb9⟩ : ∃ b, b = wx1.heap.size := ⟨_, rfl⟩
          obtain ⟨wx2, hwY⟩ : ∃ u, u = wx1.alloc (.cells #[.int .i64 0, .int .i64 0, .string ⟨#[]⟩, .slice none 0 0, .slice none 0 0, .slice none 0 0] 26) := ⟨_, rfl⟩
          rw [show wx1.alloc (.cells Sp.z6 26) = wx2 from hwY.symm, ← hb9] at hmk
          rw [← hwY, ← hb9]
          clear hb9 hwY
          have HMK2 := Lib.hid hmk
          clear hmk
          refine hK.out _ _ ?_ (fun hHeld => ?_)
          · exact HBX.out _ (HB4.out.trans (HMK2.out.bel.mono HB4.out.size))
          clear hK K
          try simp only [Act.put, List.setIfInBounds_toArray, List.set_cons_zero, List.set_cons_succ]
          refine wpAnyH_ready (rs := [4]) (by kernel_rfl) (by simp) ?_
          refine AllReadyH.cons (o := ⟨_, _, _, _, _, _⟩) rfl (fun K hK => ?_) AllReadyH.nil
          refine Ap.step2 rfl _ _ 23 (by rfl) w14.heap.size 3 i1 (.int .i64 0) 1 8 Tryd.underlying23 hi1 hy0 hy1 hy2 rfl (by decide) (.slice none 0 0) 0 [] (by rfl) (World.ownsRow_nil _ _ _ _) (.slice a1 x.m.length q1) x.m.length (x.m.map (Value.int .i64)) (by rfl) (HSRC4.out _ HMK2.out.bel) HLEN4.out HONE4.out hq1 hq2 HMK2.out.bel.size ?_
          intro va wx3 hown hg hat
          rw [Nat.zero_add, List.nil_append] at hown
          obtain ⟨va1, va3, rfl⟩ := Dt.row_form hown
          have HMK3 := Lib.hid (HMK2.out.s4 hown hg hat)
          clear hown hg hat
          simp only [Nat.zero_add]
          refine hK.out _ _ ?_ (fun hHeld => ?_)
          · exact HBX.out _ (HB4.out.trans (HMK3.out.bel.mono HB4.out.size))
          clear hK K
          try simp only [Act.put, List.setIfInBounds_toArray, List.set_cons_zero, List.set_cons_succ]
          refine wpAnyH_ready (rs := [7]) (by kernel_rfl) (by simp) ?_
          refine AllReadyH.cons (o := ⟨_, _, _, _, _, _⟩) rfl (fun K hK => ?_) AllReadyH.nil
          refine Ap.step2 rfl _ _ 23 (by rfl) w14.heap.size 3 i1 (.int .i64 0) 1 8 Tryd.underlying23 hi1 hy0 hy1 hy2 rfl (by decide) (.slice va1 x.m.length va3) x.m.length (x.m.map (Value.int .i64)) (by rfl) (HMK3.out.r4 _ rfl) (.slice (some ⟨b6, 0, none⟩) 1 1) 1 [.int .i64 m'] (by rfl) HMK3.out.src (by rfl) (by simp [Value.oneCell']) hq3 hq4 HMK3.out.bel.size ?_
          intro v7 wx4 hown hg hat
          have HMK4 := Lib.hid (HMK3.out.s7 hown hg)
          obtain ⟨p7, c7, rfl⟩ := Dt.row_form hown
          clear hown hg hat
          refine hK.out _ _ ?_ (fun hHeld => ?_)
          · exact HBX.out _ (HB4.out.trans (HMK4.out.bel.mono HB4.out.size))
          clear hK K
          try simp only [Act.put, List.setIfInBounds_toArray, List.set_cons_zero, List.set_cons_succ]
          refine wpAnyH_ready (rs := [8]) (by kernel_rfl) (by simp) ?_
          refine AllReadyH.cons (o := ⟨_, _, _, _, _, _⟩) rfl (fun K hK => ?_) AllReadyH.nil
          go_simp
          refine (spSym_any x.s p7 (x.m.length + 1) c7 _).mono ?_
          rintro e wx5 ⟨rfl, hb8⟩
          have HMK5 := Lib.hid (HMK4.out.below hb8)
          clear hb8
          dsimp only
          refine hK.out _ _ ?_ (fun hHeld => ?_)
          · exact HBX.out _ (HB4.out.trans (HMK5.out.bel.mono HB4.out.size))
          clear hK K
          try simp only [Act.put, List.setIfInBounds_toArray, List.set_cons_zero, List.set_cons_succ]
          refine wpAnyH_ready (rs := [10]) (by kernel_rfl) (by simp) ?_
          refine AllReadyH.cons (o := ⟨_, _, _, _, _, _⟩) rfl (fun K hK => ?_) AllReadyH.nil
          rw [if_pos (by rfl)]
          have HNW : Hid (Sp.NewAt w14 (wx5.setCells b9 0 [.int .i64 5, .int .i64 0, .string x.s, .slice p7 (x.m.length + 1) c7, .slice none 0 0, .slice none 0 0]) b9 (Sp.more x m') (.slice p7 (x.m.length + 1) c7)) := by
            have h9 := HMK5.out
            rw [show x.m.length + 1 = (x.m ++ [m']).length by simp] at h9 ⊢
            exact h9.stored x.s
          refine wp_store_mid _ _ _ rfl b9 0 #[.int .i64 5, .int .i64 0, .string x.s, .slice p7 (x.m.length + 1) c7, .slice none 0 0, .slice none 0 0] rfl rfl HMK5.out.there INFO6.out (by simp [Value.oneCell']) ?_
          refine hK.out _ _ ?_ (fun hHeld => ?_)
          · exact HBX.out _ (HB4.out.trans (HNW.out.2.2.mono HB4.out.size))
          clear hK K
          try simp only [Act.put, List.setIfInBounds_toArray, List.set_cons_zero, List.set_cons_succ]
          refine wpAnyH_done (by kernel_rfl) ?_ _
          refine NoPanic.normal ?_
          go_wp2_with fail
          go_meet
          exact ⟨b9, p7, c7, rfl, HNW⟩
        refine AllReadyH.cons (o := ⟨_, _, _, _, _, _⟩) rfl (fun K hK => ?_) AllReadyH.nil
        go_simp
        have hmk := HMK0.out.s9
        obtain ⟨b9, hb9⟩ : ∃ b, b = wx0.heap.size := ⟨_, rfl⟩
        obtain ⟨wx1, hwY⟩ : ∃ u, u = wx0.alloc (.cells #[.int .i64 0, .int .i64 0, .string ⟨#[]⟩, .slice none 0 0, .slice none 0 0, .slice none 0 0] 26) := ⟨_, rfl⟩
        rw [show wx0.alloc (.cells Sp.z6 26) = wx1 from hwY.symm, ← hb9] at hmk
        rw [← hwY, ← hb9]
        clear hb9 hwY
        have HMK1 := Lib.hid hmk
        clear hmk
        refine hK.out _ _ ?_ (fun hHeld => ?_)
        · exact HBX.out _ (HB4.out.trans (HMK1.out.bel.mono HB4.out.size))
        clear hK K
        try simp only [Act.put, List.setIfInBounds_toArray, List.set_cons_zero, List.set_cons_succ]
        refine wpAnyH_ready (rs := [4, 6]) (by kernel_rfl) (by simp) ?_
        refine AllReadyH.cons (o := ⟨_, _, _, _, _, _⟩) rfl (fun K hK => ?_) ?_
        · refine Ap.step2 rfl _ _ 23 (by rfl) w14.heap.size 3 i1 (.int .i64 0) 1 8 Tryd.underlying23 hi1 hy0 hy1 hy2 rfl (by decide) (.slice none 0 0) 0 [] (by rfl) (World.ownsRow_nil _ _ _ _) (.slice a1 x.m.length q1) x.m.length (x.m.map (Value.int .i64)) (by rfl) (HSRC4.out _ HMK1.out.bel) HLEN4.out HONE4.out hq1 hq2 HMK1.out.bel.size ?_
          intro va wx2 hown hg hat
          rw [Nat.zero_add, List.nil_append] at hown
          obtain ⟨va1, va3, rfl⟩ := Dt.row_form hown
          have HMK2 := Lib.hid (HMK1.out.s4 hown hg hat)
          clear hown hg hat
          simp only [Nat.zero_add]
          refine hK.out _ _ ?_ (fun hHeld => ?_)
          · exact HBX.out _ (HB4.out.trans (HMK2.out.bel.mono HB4.out.size))
          clear hK K
          try simp only [Act.put, List.setIfInBounds_toArray, List.set_cons_zero, List.set_cons_succ]
          refine wpAnyH_ready (rs := [6]) (by kernel_rfl) (by simp) ?_
          refine AllReadyH.cons (o := ⟨_, _, _, _, _, _⟩) rfl (fun K hK => ?_) AllReadyH.nil
          go_simp
          have hmk := HMK2.out.s6
          obtain ⟨b6, hb6⟩ : ∃ b, b = wx2.heap.size := ⟨_, rfl⟩
          obtain ⟨wx3, hwY⟩ : ∃ u, u = wx2.alloc (.cells #[.int .i64 m'] 3) := ⟨_, rfl⟩
          rw [show wx2.alloc (.cells #[.int .i64 m'] 3) = wx3 from hwY.symm, ← hb6] at hmk
          rw [← hwY, ← hb6]
          clear hb6 hwY
          have HMK3 := Lib.hid hmk
          clear hmk
          refine hK.out _ _ ?_ (fun hHeld => ?_)
          · exact HBX.out _ (HB4.out.trans (HMK3.out.bel.mono HB4.out.size))
          clear hK K
          try simp only [Act.put, List.setIfInBounds_toArray, List.set_cons_zero, List.set_cons_succ]
          refine wpAnyH_ready (rs := [7]) (by kernel_rfl) (by simp) ?_
          refine AllReadyH.cons (o := ⟨_, _, _, _, _, _⟩) rfl (fun K hK => ?_) AllReadyH.nil
          refine Ap.step2 rfl _ _ 23 (by rfl) w14.heap.size 3 i1 (.int .i64 0) 1 8 Tryd.underlying23 hi1 hy0 hy1 hy2 rfl (by decide) (.slice va1 x.m.length va3) x.m.length (x.m.map (Value.int .i64)) (by rfl) (HMK3.out.r4 _ rfl) (.slice (some ⟨b6, 0, none⟩) 1 1) 1 [.int .i64 m'] (by rfl) HMK3.out.src (by rfl) (by simp [Value.oneCell']) hq3 hq4 HMK3.out.bel.size ?_
          intro v7 wx4 hown hg hat
          have HMK4 := Lib.hid (HMK3.out.s7 hown hg)
          obtain ⟨p7, c7, rfl⟩ := Dt.row_form hown
          clear hown hg hat
          refine hK.out _ _ ?_ (fun hHeld => ?_)
          · exact HBX.out _ (HB4.out.trans (HMK4.out.bel.mono HB4.out.size))
          clear hK K
          try simp only [Act.put, List.setIfInBounds_toArray, List.set_cons_zero, List.set_cons_succ]
          refine wpAnyH_ready (rs := [8]) (by kernel_rfl) (by simp) ?_
          refine AllReadyH.cons (o := ⟨_, _, _, _, _, _⟩) rfl (fun K hK => ?_) AllReadyH.nil
          go_simp
          refine (spSym_any x.s p7 (x.m.length + 1) c7 _).mono ?_
          rintro e wx5 ⟨rfl, hb8⟩
          have HMK5 := Lib.hid (HMK4.out.below hb8)
          clear hb8
          dsimp only
          refine hK.out _ _ ?_ (fun hHeld => ?_)
          · exact HBX.out _ (HB4.out.trans (HMK5.out.bel.mono HB4.out.size))
          clear hK K
          try simp only [Act.put, List.setIfInBounds_toArray, List.set_cons_zero, List.set_cons_succ]
          refine wpAnyH_ready (rs := [10]) (by kernel_rfl) (by simp) ?_
          refine AllReadyH.cons (o := ⟨_, _, _, _, _, _⟩) rfl (fun K hK => ?_) AllReadyH.nil
          rw [if_pos (by rfl)]
          have HNW : Hid (Sp.NewAt w14 (wx5.setCells b9 0 [.int .i64 5, .int .i64 0, .string x.s, .slice p7 (x.m.length + 1) c7, .slice none 0 0, .slice none 0 0]) b9 (Sp.more x m') (.slice p7 (x.m.length + 1) c7)) := by
            have h9 := HMK5.out
            rw [show x.m.length + 1 = (x.m ++ [m']).length by simp] at h9 ⊢
            exact h9.stored x.s
          refine wp_store_mid _ _ _ rfl b9 0 #[.int .i64 5, .int .i64 0, .string x.s, .slice p7 (x.m.length + 1) c7, .slice none 0 0, .slice none 0 0] rfl rfl HMK5.out.there INFO6.out (by simp [Value.oneCell']) ?_
          refine hK.out _ _ ?_ (fun hHeld => ?_)
          · exact HBX.out _ (HB4.out.trans (HNW.out.2.2.mono HB4.out.size))
          clear hK K
          try simp only [Act.put, List.setIfInBounds_toArray, List.set_cons_zero, List.set_cons_succ]
          refine wpAnyH_done (by kernel_rfl) ?_ _
          refine NoPanic.normal ?_
          go_wp2_with fail
          go_meet
          exact ⟨b9, p7, c7, rfl, HNW⟩
        refine AllReadyH.cons (o := ⟨_, _, _, _, _, _⟩) rfl (fun K hK => ?_) AllReadyH.nil
        go_simp
        have hmk := HMK1.out.s6
        obtain ⟨b6, hb6⟩ : ∃ b, b = wx1.heap.size := ⟨_, rfl⟩
        obtain ⟨wx2, hwY⟩ : ∃ u, u = wx1.alloc (.cells #[.int .i64 m'] 3) := ⟨_, rfl⟩
        rw [show wx1.alloc (.cells #[.int .i64 m'] 3) = wx2 from hwY.symm, ← hb6] at hmk
        rw [← hwY, ← hb6]
        clear hb6 hwY
        have HMK2 := Lib.hid hmk
        clear hmk
        refine hK.out _ _ ?_ (fun hHeld => ?_)
        · exact HBX.out _ (HB4.out.trans (HMK2.out.bel.mono HB4.out.size))
        clear hK K
        try simp only [Act.put, List.setIfInBounds_toArray, List.set_cons_zero, List.set_cons_succ]
        refine wpAnyH_ready (rs := [4]) (by kernel_rfl) (by simp) ?_
        refine AllReadyH.cons (o := ⟨_, _, _, _, _, _⟩) rfl (fun K hK => ?_) AllReadyH.nil
        refine Ap.step2 rfl _ _ 23 (by rfl) w14.heap.size 3 i1 (.int .i64 0) 1 8 Tryd.underlying23 hi1 hy0 hy1 hy2 rfl (by decide) (.slice none 0 0) 0 [] (by rfl) (World.ownsRow_nil _ _ _ _) (.slice a1 x.m.length q1) x.m.length (x.m.map (Value.int .i64)) (by rfl) (HSRC4.out _ HMK2.out.bel) HLEN4.out HONE4.out hq1 hq2 HMK2.out.bel.size ?_
        intro va wx3 hown hg hat
        rw [Nat.zero_add, List.nil_append] at hown
        obtain ⟨va1, va3, rfl⟩ := Dt.row_form hown
        have HMK3 := Lib.hid (HMK2.out.s4 hown hg hat)
        clear hown hg hat
        simp only [Nat.zero_add]
        refine hK.out _ _ ?_ (fun hHeld => ?_)
        · exact HBX.out _ (HB4.out.trans (HMK3.out.bel.mono HB4.out.size))
        clear hK K
        try simp only [Act.put, List.setIfInBounds_toArray, List.set_cons_zero, List.set_cons_succ]
        refine wpAnyH_ready (rs := [7]) (by kernel_rfl) (by simp) ?_
        refine AllReadyH.cons (o := ⟨_, _, _, _, _, _⟩) rfl (fun K hK => ?_) AllReadyH.nil
        refine Ap.step2 rfl _ _ 23 (by rfl) w14.heap.size 3 i1 (.int .i64 0) 1 8 Tryd.underlying23 hi1 hy0 hy1 hy2 rfl (by decide) (.slice va1 x.m.length va3) x.m.length (x.m.map (Value.int .i64)) (by rfl) (HMK3.out.r4 _ rfl) (.slice (some ⟨b6, 0, none⟩) 1 1) 1 [.int .i64 m'] (by rfl) HMK3.out.src (by rfl) (by simp [Value.oneCell']) hq3 hq4 HMK3.out.bel.size ?_
        intro v7 wx4 hown hg hat
        have HMK4 := Lib.hid (HMK3.out.s7 hown hg)
        obtain ⟨p7, c7, rfl⟩ := Dt.row_form hown
        clear hown hg hat
        refine hK.out _ _ ?_ (fun hHeld => ?_)
        · exact HBX.out _ (HB4.out.trans (HMK4.out.bel.mono HB4.out.size))
        clear hK K
        try simp only [Act.put, List.setIfInBounds_toArray, List.set_cons_zero, List.set_cons_succ]
        refine wpAnyH_ready (rs := [8]) (by kernel_rfl) (by simp) ?_
        refine AllReadyH.cons (o := ⟨_, _, _, _, _, _⟩) rfl (fun K hK => ?_) AllReadyH.nil
        go_simp
        refine (spSym_any x.s p7 (x.m.length + 1) c7 _).mono ?_
        rintro e wx5 ⟨rfl, hb8⟩
        have HMK5 := Lib.hid (HMK4.out.below hb8)
        clear hb8
        dsimp only
        refine hK.out _ _ ?_ (fun hHeld => ?_)
        · exact HBX.out _ (HB4.out.trans (HMK5.out.bel.mono HB4.out.size))
        clear hK K
        try simp only [Act.put, List.setIfInBounds_toArray, List.set_cons_zero, List.set_cons_succ]
        refine wpAnyH_ready (rs := [10]) (by kernel_rfl) (by simp) ?_
        refine AllReadyH.cons (o := ⟨_, _, _, _, _, _⟩) rfl (fun K hK => ?_) AllReadyH.nil
        rw [if_pos (by rfl)]
        have HNW : Hid (Sp.NewAt w14 (wx5.setCells b9 0 [.int .i64 5, .int .i64 0, .string x.s, .slice p7 (x.m.length + 1) c7, .slice none 0 0, .slice none 0 0]) b9 (Sp.more x m') (.slice p7 (x.m.length + 1) c7)) := by
          have h9 := HMK5.out
          rw [show x.m.length + 1 = (x.m ++ [m']).length by simp] at h9 ⊢
          exact h9.stored x.s
        refine wp_store_mid _ _ _ rfl b9 0 #[.int .i64 5, .int .i64 0, .string x.s, .slice p7 (x.m.length + 1) c7, .slice none 0 0, .slice none 0 0] rfl rfl HMK5.out.there INFO6.out (by simp [Value.oneCell']) ?_
        refine hK.out _ _ ?_ (fun hHeld => ?_)
        · exact HBX.out _ (HB4.out.trans (HNW.out.2.2.mono HB4.out.size))
        clear hK K
        try simp only [Act.put, List.setIfInBounds_toArray, List.set_cons_zero, List.set_cons_succ]
        refine wpAnyH_done (by kernel_rfl) ?_ _
        refine NoPanic.normal ?_
        go_wp2_with fail
        go_meet
        exact ⟨b9, p7, c7, rfl, HNW⟩
      case rest =>
        obtain ⟨bw, pw, cw, rfl, hnw⟩ := hcut
        obtain ⟨w15, hw15⟩ : ∃ w15, w15 = wc := ⟨_, rfl⟩
        rw [← hw15] at hnw ⊢
        clear hw15
        have HNW := hnw
        have HB15 := Lib.hid (HB4.out.trans (HNW.out.2.2.mono HB4.out.size))
        have HT15 := Lib.hid (HT4.out.below HNW.out.2.2)
        have HS15 := Lib.hid ((HNW.out.2.2.block w12.heap.size (Array.getElem?_eq_some_iff.1 HS4.out).1).trans HS4.out)
        have HBW : Hid (bw < w15.heap.size) := block_lt_of_cell HNW.out.1.1
        clear hnw
        have hnm := spNames_any (some ⟨T, 0, none⟩) other w15
        go_wp2_with (go_at_call 19; refine hnm.mono ?_; clear hnm; rintro e w16 ⟨rfl, hw16⟩; have hb16 : Below w15.heap.size w15 w16 := (by rw [hw16]; exact ((Below.refl _ _).alloc (Nat.le_refl _) _).alloc (by simp) _); have hbt := Boxed.new w15 32 (.pointer (some ⟨T, 0, none⟩)); have hbs := Boxed.new (w15.alloc (.cells #[.pointer (some ⟨T, 0, none⟩)] 32)) 3 (.int .i64 other); have hbt2 := hbt.alloc (.cells #[.int .i64 other] 3); rw [World.size_alloc] at hbs; rw [← hw16] at hbt2 hbs; have htl := spTold_any w15.heap.size (w15.heap.size + 1) 1048576 (by decide) w16 (HT15.out.below hb16) other hbs.cell hbt2.cell; have HB16 := Lib.hid hb16; clear hw16 hbt hbs hbt2 hb16; refine Hid.out ?_)
        refine Lib.hid ?_
        go_wp2_with (go_at_call 18; refine htl.mono ?_; clear htl; rintro e w17 ⟨v17, ys, rfl, hys, hrow, hrep, hb17⟩; obtain ⟨av, cv, rfl⟩ := Dt.row_form hrow; have HYS := Lib.hid hys; have HROW := Lib.hid hrow; have HREP := Lib.hid hrep; have HB17 := Lib.hid hb17; clear hys hrow hrep hb17; refine Hid.out ?_)
        refine Lib.hid ?_
        have HB157 := Lib.hid (HB16.out.trans (HB17.out.mono HB16.out.size))
        have HB217 := Lib.hid (HB15.out.trans (HB157.out.mono HB15.out.size))
        have HOK := Lib.hid HT15.out.tab.ok
        have HNS : Hid (ys.map (fun x => x.1.1) = Sp.namesOf t' other) := by
          show _ = _
          rw [HYS.out, List.take_of_length_le (by have := Sp.names_le HOK.out other; omega)]
        have hyl : ys.length ≤ 16384 := by have := congrArg List.length HNS.out; rw [List.length_map] at this; have := Sp.names_le HOK.out other; omega
        clear HYS
        go_wp2_with fail
        go_loopw [91] (fun v wr => ∃ j : Nat, v = .int .i64 j ∧ j ≤ ys.length ∧ Hid (∀ i, (hi : i < ys.length) → i < j → Dt.sameD ys[i].d (Sp.more x m') = false) ∧ Hid (Below w17.heap.size w17 wr)) (fun v _ => ys.length - (intOf v).toNat)
        case atStart => exact ⟨0, rfl, Nat.zero_le _, fun i _ h => absurd h (by omega), Below.refl _ _⟩
        case round =>
          obtain ⟨j, rfl, hj, HNO, HBR⟩ := hrel
          by_cases hlt : j < ys.length
          · have hlti : (j : Int) < (ys.length : Int) := by omega
            have hj0 : (0 : Int) ≤ (j : Int) := by omega
            obtain ⟨g, c, e1, hg, hc⟩ := Sp.told_at HROW.out j hlt
            obtain ⟨-, -, rfl⟩ := Sp.slice_inj e1
            obtain ⟨rfl, -, -⟩ := Sp.slice_inj e1
            have hd := fun i (hi : i < 7) => (HBR.out.cell (p := ⟨g, j * 7 + i, none⟩) hg).trans (hc i hi)
            obtain ⟨y, hy⟩ : ∃ y, y = ys[j] := ⟨_, rfl⟩
            have hrj : Dt.Rep (fun _ => True) wr y.d y.2.1 y.2.2.1 y.2.2.2 := by
              rw [hy]
              exact Dt.Rep.below HBR.out (Dt.Rep.mono (fun _ _ _ => trivial) _ (HREP.out _ (List.getElem_mem hlt)))
            rw [← hy] at hd
            obtain ⟨⟨⟨yi, hyi⟩, vm, vL, vt⟩, hyy⟩ : ∃ z, z = y := ⟨_, rfl⟩
            obtain ⟨d, hdd⟩ : ∃ d, d = y.d := ⟨_, rfl⟩
            have hcs : y.cells = [.int .i64 (yi : Int), .int .i64 d.k, .int .i64 d.n, .string d.s, vm, vL, vt] := by rw [hdd, ← hyy]; rfl
            have hrd : Dt.Rep (fun _ => True) wr d vm vL vt := by rw [hdd, ← hyy]; rw [← hyy] at hrj; exact hrj
            have hwd : Dt.Wf d := by rw [hdd]; exact Sp.Ne.wf HOK.out y
            have HSD : Hid (Dt.sameD d (Sp.more x m') = Dt.sameD ys[j].d (Sp.more x m')) := by show _ = _; rw [hdd, hy]
            rw [hcs] at hd
            obtain ⟨r1, s1, t1, r2, s2, t2, r3, s3, t3, rfl, rfl, rfl⟩ := hrd.forms
            have q0 := hd 0 (by omega)
            have q1' := hd 1 (by omega)
            have q2' := hd 2 (by omega)
            have q3' := hd 3 (by omega)
            have q4 := hd 4 (by omega)
            have q5 := hd 5 (by omega)
            have q6 := hd 6 (by omega)
            simp only [List.getElem?_cons_succ, List.getElem?_cons_zero, Nat.add_zero] at q0 q1' q2' q3' q4 q5 q6
            obtain ⟨wB, hwB⟩ : ∃ wB, wr.alloc (.cells #[.int .i64 (yi : Int), .int .i64 d.k, .int .i64 d.n, .string d.s, .slice r1 s1 t1, .slice r2 s2 t2, .slice r3 s3 t3] 57) = wB := ⟨_, rfl⟩
            have HNB := Lib.hid (Sp.below_new HBR.out hwB HBR.out.size)
            have nb : ∀ i v, #[Value.int .i64 (yi : Int), .int .i64 d.k, .int .i64 d.n, .string d.s, .slice r1 s1 t1, .slice r2 s2 t2, .slice r3 s3 t3][i]? = some v → wB.cell? ⟨wr.heap.size, i, none⟩ = some v := fun i v h => by unfold World.cell?; rw [HNB.out.2.2.1]; exact h
            have l1 := nb 1 _ rfl
            have l2 := nb 2 _ rfl
            have l3 := nb 3 _ rfl
            have l4 := nb 4 _ rfl
            have l5 := nb 5 _ rfl
            have l6 := nb 6 _ rfl
            have HB15B := Lib.hid (HB157.out.trans (HNB.out.1.mono HB157.out.size))
            obtain ⟨z0, z1, z2, z3, z4, z5⟩ := HNW.out.1.below HB15B.out
            have hsm := rSame_any d (Sp.more x m') _ _ _ _ _ _ wB hwd (Sp.sym_wf (HLAW2.out)) (hrd.below (by rw [← hwB]; exact (Below.refl _ _).alloc (Nat.le_refl _) _)) (HNW.out.rep.below HB15B.out)
            obtain ⟨Q, hQ⟩ : ∃ Q, Q = Dt.sameD d (Sp.more x m') := ⟨_, rfl⟩
            rw [← hQ] at hsm
            have HSQ : Hid (Q = false → ∀ i, (hi : i < ys.length) → i < j + 1 → Dt.sameD ys[i].d (Sp.more x m') = false) := by
              intro hq i hi hij
              by_cases e : i = j
              · subst e
                rw [← HSD.out, ← hQ, hq]
              · exact HNO.out i hi (by omega)
            clear nb hd hc hrj hcs hrd hwd hdd hyy hy e1 hQ
            cases Q with
            | true =>
              go_wp2_with (go_at_call 14; refine hsm.mono ?_; clear hsm; rintro e w22 ⟨rfl, hb22⟩; have HB22 := Lib.hid (HB15.out.trans ((HB15B.out.trans (hb22.mono HB15B.out.size)).mono HB15.out.size)); clear hb22)
              go_ret
              exact ⟨rfl, HB2.out.trans (HB22.out.mono HB2.out.size)⟩
            | false =>
              go_wp2_with (go_at_call 14; refine hsm.mono ?_; clear hsm; rintro e w22 ⟨rfl, hb22⟩; have HB22 := Lib.hid (HNB.out.1.trans (hb22.mono HNB.out.1.size)); have HNO2 := Lib.hid (HSQ.out (by trivial)); clear hb22)
              go_roundw
              case rel => exact ⟨j + 1, by simp, by omega, HNO2, HB22⟩
              case measure => simp [intOf]; omega
          · obtain rfl : j = ys.length := by omega
            have hge : ¬ ((ys.length : Int) < (ys.length : Int)) := by omega
            have HB15R := Lib.hid (HB157.out.trans (HBR.out.mono HB157.out.size))
            have HB2R := Lib.hid (HB15.out.trans (HB15R.out.mono HB15.out.size))
            have HTR := Lib.hid (HT15.out.below HB15R.out)
            have HSR := Lib.hid ((HB15R.out.block w12.heap.size (Array.getElem?_eq_some_iff.1 HS15.out).1).trans HS15.out)
            have hf := spFind_any other (Sp.more x m') _ _ _ wr HTR.out.tab (Sp.sym_wf HLAW2.out) (HNW.out.rep.below HB15R.out) (HT.out.on HB2R.out)
            have HTL : Hid (t'.l = t.l) := by show _ = _; rw [HMT.out]
            obtain ⟨z0, z1, z2, z3, z4, z5⟩ := HNW.out.1.below HB15R.out
            by_cases ho : 0 ≤ other ∧ other < (t.l.length : Int)
            · have hfv : Sp.find t' other (Sp.more x m') = (⟨us, uw, un⟩, 0) := by
                have h1 := Sp.none_binds HOK.out HLAW2.out HNS.out (fun i hi => HNO.out i hi hi) (by rw [HTL.out]; exact ho)
                rw [HTL.out] at h1
                have h2 := HLAW.out.2.1 ho (by rw [← HMM.out]; exact h1)
                rw [HMT.out, HMM.out, h2]
                exact HU.out
              rw [hfv] at hf
              simp only [Sp.Seen.val] at hf
              have ho1 : ¬ other < 0 := by omega
              have ho2 : decide (other < 0) = false := decide_eq_false (by omega)
              have ho3 : decide ((t'.l.length : Int) ≤ other) = false := decide_eq_false (by rw [HTL.out]; omega)
              have ho4 : ¬ (t'.l.length : Int) ≤ other := by rw [HTL.out]; omega
              clear hfv ho
              go_wp2_with (go_at_call 11; refine hf.mono ?_; clear hf; rintro e w20 ⟨rfl, hb20⟩; obtain ⟨w21, hw21⟩ : ∃ w21, w20.alloc (.cells #[.int .i64 (us : Int), .int .i64 uw, .string un] 35) = w21 := ⟨_, rfl⟩; have HB21 := Lib.hid (Sp.below_new hb20 hw21 hb20.size); have hsz := spSizes_any w21 (HTR.out.below HB21.out.1).tab; clear hb20; refine Hid.out ?_)
              refine Lib.hid ?_
              go_wp2_with (go_at_call 20; refine hsz.mono ?_; clear hsz; rintro e w23 ⟨rfl, hb23⟩; have HB23 := Lib.hid (HB21.out.1.trans (hb23.mono HB21.out.1.size)); have HS21 := Lib.hid ((hb23.block w20.heap.size (Array.getElem?_eq_some_iff.1 HB21.out.2.2.1).1).trans HB21.out.2.2.1); have HS23 := Lib.hid ((HB23.out.block w12.heap.size (Array.getElem?_eq_some_iff.1 HSR.out).1).trans HSR.out); clear hb23; refine Hid.out ?_)
              refine Lib.hid ?_
              have HBE := Lib.hid (HB2R.out.trans (HB23.out.mono HB2R.out.size))
              have k0 : w23.cell? ⟨w20.heap.size, 0, none⟩ = some (.int .i64 (us : Int)) := by unfold World.cell?; rw [HS21.out]; rfl
              have l0 : w23.cell? ⟨w12.heap.size, 0, none⟩ = some (.int .i64 (us : Int)) := by unfold World.cell?; rw [HS23.out]; rfl
              have k1 : w23.cell? ⟨w20.heap.size, 1, none⟩ = some (.int .i64 uw) := by unfold World.cell?; rw [HS21.out]; rfl
              have l1 : w23.cell? ⟨w12.heap.size, 1, none⟩ = some (.int .i64 uw) := by unfold World.cell?; rw [HS23.out]; rfl
              have k2 : w23.cell? ⟨w20.heap.size, 2, none⟩ = some (.string un) := by unfold World.cell?; rw [HS21.out]; rfl
              have l2 : w23.cell? ⟨w12.heap.size, 2, none⟩ = some (.string un) := by unfold World.cell?; rw [HS23.out]; rfl
              have EQ := Sp.eqSeen
              go_wp2
              go_ret
              exact ⟨rfl, HB2.out.trans (HBE.out.mono HB2.out.size)⟩
            · have hfv : Sp.find t' other (Sp.more x m') = (⟨0, 0, ⟨#[]⟩⟩, 50) := by
                have h2 := HLAW.out.2.2 (show other < 0 ∨ (t.l.length : Int) ≤ other by omega)
                rw [HMT.out, HMM.out, h2]
              rw [hfv] at hf
              simp only [Sp.Seen.val] at hf
              have hor : other < 0 ∨ (¬ other < 0 ∧ (t'.l.length : Int) ≤ other) := by rw [HTL.out]; omega
              clear hfv ho
              rcases hor with ho1 | ⟨ho1, ho4⟩
              · have ho2 : decide (other < 0) = true := decide_eq_true ho1
                go_wp2_with (go_at_call 11; refine hf.mono ?_; clear hf; rintro e w20 ⟨rfl, hb20⟩; have HA : Hid (Below wr.heap.size wr (w20.alloc (.cells #[.int .i64 0, .int .i64 0, .string ⟨#[]⟩] 35))) := hb20.trans (((Below.refl _ w20).alloc (Nat.le_refl _) _).mono hb20.size); have hsz := spSizes_any (w20.alloc (.cells #[.int .i64 0, .int .i64 0, .string ⟨#[]⟩] 35)) (HTR.out.below HA.out).tab; clear hb20; refine Hid.out ?_)
                refine Lib.hid ?_
                go_wp2_with (go_at_call 20; refine hsz.mono ?_; clear hsz; rintro e w23 ⟨rfl, hb23⟩; have HB23 := Lib.hid (HA.out.trans (hb23.mono HA.out.size)); clear hb23; refine Hid.out ?_)
                refine Lib.hid ?_
                have HBE := Lib.hid (HB2R.out.trans (HB23.out.mono HB2R.out.size))
                go_wp2
                go_ret
                exact ⟨rfl, HB2.out.trans (HBE.out.mono HB2.out.size)⟩
              · have ho2 : decide (other < 0) = false := decide_eq_false ho1
                have ho3 : decide ((t'.l.length : Int) ≤ other) = true := decide_eq_true ho4
                go_wp2_with (go_at_call 11; refine hf.mono ?_; clear hf; rintro e w20 ⟨rfl, hb20⟩; have HA : Hid (Below wr.heap.size wr (w20.alloc (.cells #[.int .i64 0, .int .i64 0, .string ⟨#[]⟩] 35))) := hb20.trans (((Below.refl _ w20).alloc (Nat.le_refl _) _).mono hb20.size); have hsz := spSizes_any (w20.alloc (.cells #[.int .i64 0, .int .i64 0, .string ⟨#[]⟩] 35)) (HTR.out.below HA.out).tab; clear hb20; refine Hid.out ?_)
                refine Lib.hid ?_
                go_wp2_with (go_at_call 20; refine hsz.mono ?_; clear hsz; rintro e w23 ⟨rfl, hb23⟩; have HB23 := Lib.hid (HA.out.trans (hb23.mono HA.out.size)); clear hb23; refine Hid.out ?_)
                refine Lib.hid ?_
                have HBE := Lib.hid (HB2R.out.trans (HB23.out.mono HB2R.out.size))
                go_wp2
                go_ret
                exact ⟨rfl, HB2.out.trans (HBE.out.mono HB2.out.size)⟩
end Go.Proofs.YtjbjgceblanhpaaDoor
