/-
  shuttlelaw05.ScopeInner: its walk.
-/
import Derived.Test.YtjbjgceblanhpaaDoorSpRow
import Derived.Test.YtjbjgceblanhpaaDoorSpInnerP
import Derived.Test.YtjbjgceblanhpaaDoorSpMarked
import Derived.Deep.Draws
import Derived.Deep.RegionHeld3
import Derived.Deep.DeepCutAuto
namespace Go.Proofs.YtjbjgceblanhpaaDoor
open Go.RowKit
attribute [local go_sem] Oper.semAt_some
namespace Sp
open Dt
/-- what small leaves behind acts and one more -/
def JoinPost (w2 : World) (g c k : Nat) (L : List O) (V : Value) (B : Bool) (wx : World) : Prop := (B = true → V = .slice (some ⟨g, 0, none⟩) (k + 1) c ∧ ORow (fun _ => True) wx (.slice (some ⟨g, 0, none⟩) L.length c) L) ∧ Below w2.heap.size w2 wx
end Sp
set_option maxRecDepth 100000 in
set_option maxHeartbeats 8000000 in
theorem ScopeInner_walk (a : Option Addr) (c : Nat) (l : List Sp.O) (s : Int) (x : Dt.D) (vm vL vt : Value) (y : Dt.D) (um uL ut : Value) (what : Int) (w : World) (hI : Sp.InRow w a c l) (hWx : Dt.Wf x) (hRx : Dt.Rep (fun _ => True) w x vm vL vt) (hWy : Dt.Wf y) (hRy : Dt.Rep (fun _ => True) w y um uL ut) (hT : Sp.T10 w) :
    Calls Tryd.prog 3 #[.slice a l.length c, .int .i64 s, .agg #[.int .i64 x.k, .int .i64 x.n, .string x.s, vm, vL, vt], .agg #[.int .i64 y.k, .int .i64 y.n, .string y.s, um, uL, ut], .int .i64 what] w fun e w' => e = .returned (.bool true) ∧ Below w.heap.size w w' := by
  obtain ⟨a1, n1, q1, a2, n2, q2, a3, n3, q3, rfl, rfl, rfl⟩ := hRx.forms
  obtain ⟨b1, m1, r1, b2, m2, r2, b3, m3, r3, rfl, rfl, rfl⟩ := hRy.forms
  have HN1 : Hid (n1 = x.m.length) := by show _ = _; obtain ⟨ai, ci, e1, -⟩ := ((Dt.rep_iff _ _ _ _ _ _).1 hRx).1; cases e1; rfl
  obtain ⟨w2, hw2, hb2, hs2, hx2, hy2⟩ := Dt.boxes2 w x y (.slice a1 n1 q1) (.slice a2 n2 q2) (.slice a3 n3 q3) (.slice b1 m1 r1) (.slice b2 m2 r2) (.slice b3 m3 r3)
  obtain ⟨i0, hi, hz0, hz1, hz2⟩ := info_parts Sp.infoO
  obtain ⟨k, hk⟩ : ∃ k, k = min l.length 50 := ⟨_, rfl⟩
  have hkl : k ≤ l.length := by omega
  have hk50 : k ≤ 50 := by omega
  have hlc : l.length ≤ c := by obtain ⟨a', c', e, h, _⟩ := hI.row; obtain ⟨-, -, rfl⟩ := Sp.slice_inj e; exact h
  have hl63 := hI.len
  have hkc : k ≤ c := by omega
  have hkci : (k : Int) ≤ (c : Int) := by omega
  have hmin : min (l.length : Int) 50 = (k : Int) := by omega
  obtain ⟨vs, hv1, hv2, hv3, hv4⟩ := hI.src k hkl
  have HFL : Hid ((Sp.flatO vs).length = k * 16) := by show _ = _; rw [Sp.flatO_length, hv2]
  have HONE := Lib.hid (Sp.flat_one hv3)
  have HSRC : Hid (∀ u, Below w2.heap.size w2 u → Ap.Src u (.slice a k c) k (Sp.flatO vs)) := fun u hu => by
    have hbu := hb2.trans (hu.mono hb2.size)
    rcases hv4 with ⟨h1, h2, h3⟩ | ⟨ad, c', h1, h2⟩
    · exact .inl ⟨h1, h2, h3⟩
    · exact .inr ⟨ad, c', h1, fun j v hv => (hbu.cell (World.block_lt_of_cell? w _ (h2 j v hv))).trans (h2 j v hv)⟩
  have hk1 : 0 + k ≤ maxLen := by unfold maxLen; omega
  have hk2 : (0 + k) * 240 ≤ 140737488355328 := by omega
  have hk3 : k + 1 ≤ maxLen := by unfold maxLen; omega
  have hk4 : (k + 1) * 240 ≤ 140737488355328 := by omega
  obtain ⟨ov, hov⟩ : ∃ ov : Sp.OV, ov = ⟨⟨0, 0, 0, x, y, 0⟩, .slice a1 n1 q1, .slice a2 n2 q2, .slice a3 n3 q3, .slice b1 m1 r1, .slice b2 m2 r2, .slice b3 m3 r3⟩ := ⟨_, rfl⟩
  have hovc : ov.cells = [.int .i64 0, .int .i64 0, .int .i64 0, .int .i64 x.k, .int .i64 x.n, .string x.s, .slice a1 n1 q1, .slice a2 n2 q2, .slice a3 n3 q3, .int .i64 y.k, .int .i64 y.n, .string y.s, .slice b1 m1 r1, .slice b2 m2 r2, .slice b3 m3 r3, .int .i64 0] := by rw [hov]; rfl
  obtain ⟨L, hL⟩ : ∃ L, L = l.take k ++ [(⟨0, 0, 0, x, y, 0⟩ : Sp.O)] := ⟨_, rfl⟩
  have hLm : (vs ++ [ov]).map Sp.OV.x = L := by rw [List.map_append, hv1, hL, hov]; rfl
  have hLl : L.length = k + 1 := by rw [hL, List.length_append, List.length_take]; simp; omega
  have HLT : Hid (L.take k = l.take k) := by show _ = _; rw [hL, List.take_append_of_le_length (by rw [List.length_take]; omega), List.take_take, Nat.min_self]
  have HLL := Lib.hid hLl
  have HSM : Hid (∀ v8 w8, w8.ownsRow w2.heap.size 30 16 v8 (k + 1) (Sp.flatO vs ++ [.int .i64 0, .int .i64 0, .int .i64 0, .int .i64 x.k, .int .i64 x.n, .string x.s, .slice a1 n1 q1, .slice a2 n2 q2, .slice a3 n3 q3, .int .i64 y.k, .int .i64 y.n, .string y.s, .slice b1 m1 r1, .slice b2 m2 r2, .slice b3 m3 r3, .int .i64 0]) → Below w2.heap.size w2 w8 → ∃ g8 c8, v8 = .slice (some ⟨g8, 0, none⟩) (k + 1) c8 ∧
      Calls Tryd.prog 8 #[.slice (some ⟨g8, 0, none⟩) (k + 1) c8] w8 fun e w9 => ∃ V B, e = .returned (.tuple #[V, .bool B]) ∧ (∃ V1 V2 V3, V = .slice V1 V2 V3) ∧ (B = true → V = .slice (some ⟨g8, 0, none⟩) (k + 1) c8 ∧ Sp.ORow (fun _ => True) w9 (.slice (some ⟨g8, 0, none⟩) L.length c8) L) ∧ Below w2.heap.size w2 w9) := by
    intro v8 w8 hown hb8
    have hbb := hb2.trans (hb8.mono hb2.size)
    have hgood : ∀ v ∈ vs ++ [ov], v.Good (fun _ => True) w8 := by
      intro v hv
      rcases List.mem_append.1 hv with hv | hv
      · exact (hv3 v hv).below hbb
      · rw [List.mem_singleton.1 hv, hov]
        exact ⟨hRx.below hbb, hRy.below hbb, hWx, hWy⟩
    rw [← hovc, ← Sp.flatO_one, ← Sp.flatO_app] at hown
    rcases hown.2 with ⟨rfl, h0⟩ | ⟨g, cap, cur, rfl, -⟩
    · omega
    · have hrow := Sp.ORow.of_own hown (by rw [List.length_append, hv2]; simp) hgood
      rw [hLm] at hrow
      refine ⟨g, cap, rfl, ?_⟩
      rw [show k + 1 = L.length by omega]
      refine (spSmall_any _ _ L w8 hrow (by omega)).mono ?_
      rintro e w9 ⟨rfl, hb9⟩
      refine ⟨_, _, rfl, by split <;> exact ⟨_, _, _, rfl⟩, fun hB => ?_, hb8.trans (hb9.mono hb8.size)⟩
      rw [if_pos hB, show min L.length 60 = L.length by omega]
      exact ⟨rfl, hrow.below hb9⟩
  have HBX : Hid (∀ u, Below w2.heap.size w2 u → Dt.Box u w.heap.size x (.slice a1 n1 q1) (.slice a2 n2 q2) (.slice a3 n3 q3) ∧ Dt.Box u (w.heap.size + 1) y (.slice b1 m1 r1) (.slice b2 m2 r2) (.slice b3 m3 r3)) := fun u hu => ⟨hx2.below hu, hy2.below hu⟩
  have HRX := Lib.hid (hRx.below hb2)
  have HRY := Lib.hid (hRy.below hb2)
  have HWX := Lib.hid hWx
  have HWY := Lib.hid hWy
  have HT := Lib.hid (hT.on hb2)
  have HB2 := Lib.hid hb2
  clear hk hI hv1 hv2 hv3 hv4 hov hovc hL hLm hLl hRx hRy hWx hWy hT hb2 hs2 hx2 hy2 hlc
  go_enter Tryd.func3, Tryd.ntmps3
  go_upto_region 1 with fail
  go_cut [11, 12] (fun v11 v12 wx => ∃ V1 V2 V3 B g8 c8, v11 = .slice V1 V2 V3 ∧ v12 = .bool B ∧ (B = true → Value.slice V1 V2 V3 = .slice (some ⟨g8, 0, none⟩) (k + 1) c8 ∧ Sp.ORow (fun _ => True) wx (.slice (some ⟨g8, 0, none⟩) L.length c8) L) ∧ Below w2.heap.size w2 wx)
  case first =>
    refine wp_region_noPanic ?_
    refine wp_region_held_drew (S := fun w' => Dt.Box w' w.heap.size x (.slice a1 n1 q1) (.slice a2 n2 q2) (.slice a3 n3 q3) ∧ Dt.Box w' (w.heap.size + 1) y (.slice b1 m1 r1) (.slice b2 m2 r2) (.slice b3 m3 r3)) (by kernel_rfl) (HBX.out _ ((Below.refl _ w2).drew)) (fun hHeld => ?_)
    refine wpAnyH_take (i := 0) (oi := ⟨_, _, _, _, _, _⟩) (v := ?_) rfl (by kernel_rfl) (by kernel_rfl) (by kernel_rfl) (fun _ _ _ h => h) (Or.inl ⟨by rfl, ?_⟩) (by assumption) ?_
    rotate_left
    · intro w hSw
      try dsimp only at hSw
      go_simp
      try with_reducible rfl
    simp only [Act.put, List.setIfInBounds_toArray, List.set_cons_zero, List.set_cons_succ]
    refine wpAnyH_take (i := 1) (oi := ⟨_, _, _, _, _, _⟩) (v := ?_) rfl (by kernel_rfl) (by kernel_rfl) (by kernel_rfl) (fun _ _ _ h => h) (Or.inl ⟨by rfl, ?_⟩) (by assumption) ?_
    rotate_left
    · intro w hSw
      try dsimp only at hSw
      go_simp
      try with_reducible rfl
    simp only [Act.put, List.setIfInBounds_toArray, List.set_cons_zero, List.set_cons_succ]
    refine wpAnyH_take (i := 2) (oi := ⟨_, _, _, _, _, _⟩) (v := ?_) rfl (by kernel_rfl) (by kernel_rfl) (by kernel_rfl) (fun _ _ _ h => h) (Or.inl ⟨by rfl, ?_⟩) (by assumption) ?_
    rotate_left
    · intro w hSw
      try dsimp only at hSw
      go_simp
      try with_reducible rfl
    simp only [Act.put, List.setIfInBounds_toArray, List.set_cons_zero, List.set_cons_succ]
    refine wpAnyH_take (i := 3) (oi := ⟨_, _, _, _, _, _⟩) (v := ?_) rfl (by kernel_rfl) (by kernel_rfl) (by kernel_rfl) (fun _ _ _ h => h) (Or.inl ⟨by rfl, ?_⟩) (by assumption) ?_
    rotate_left
    · intro w hSw
      try dsimp only at hSw
      go_simp
      try with_reducible rfl
    simp only [Act.put, List.setIfInBounds_toArray, List.set_cons_zero, List.set_cons_succ]
    refine wpAnyH_take (i := 4) (oi := ⟨_, _, _, _, _, _⟩) (v := ?_) rfl (by kernel_rfl) (by kernel_rfl) (by kernel_rfl) (fun _ _ _ h => h) (Or.inl ⟨by rfl, ?_⟩) (by assumption) ?_
    rotate_left
    · intro w hSw
      try dsimp only at hSw
      go_simp
      try with_reducible rfl
    simp only [Act.put, List.setIfInBounds_toArray, List.set_cons_zero, List.set_cons_succ]
    refine wpAnyH_take (i := 6) (oi := ⟨_, _, _, _, _, _⟩) (v := ?_) rfl (by kernel_rfl) (by kernel_rfl) (by kernel_rfl) (fun _ _ _ h => h) (Or.inl ⟨by rfl, ?_⟩) (by assumption) ?_
    rotate_left
    · intro w hSw
      obtain ⟨⟨g0, g1, g2, g3, g4, g5⟩, i0, i1, i2, i3, i4, i5⟩ := hSw
      go_simp
      try with_reducible rfl
    simp only [Act.put, List.setIfInBounds_toArray, List.set_cons_zero, List.set_cons_succ]
    refine wpAnyH_take (i := 7) (oi := ⟨_, _, _, _, _, _⟩) (v := ?_) rfl (by kernel_rfl) (by kernel_rfl) (by kernel_rfl) (fun _ _ _ h => h) (Or.inl ⟨by rfl, ?_⟩) (by assumption) ?_
    rotate_left
    · intro w hSw
      obtain ⟨⟨g0, g1, g2, g3, g4, g5⟩, i0, i1, i2, i3, i4, i5⟩ := hSw
      go_simp
      try with_reducible rfl
    simp only [Act.put, List.setIfInBounds_toArray, List.set_cons_zero, List.set_cons_succ]
    refine wpAnyH_take (i := 8) (oi := ⟨_, _, _, _, _, _⟩) (v := ?_) rfl (by kernel_rfl) (by kernel_rfl) (by kernel_rfl) (fun _ _ _ h => h) (Or.inl ⟨by rfl, ?_⟩) (by assumption) ?_
    rotate_left
    · intro w hSw
      try dsimp only at hSw
      go_simp
      try with_reducible rfl
    simp only [Act.put, List.setIfInBounds_toArray, List.set_cons_zero, List.set_cons_succ]
    refine wpAnyH_ready (rs := [5, 9]) (by kernel_rfl) (by simp) ?_
    refine AllReadyH.cons (o := ⟨_, _, _, _, _, _⟩) rfl (fun K hK => ?_) ?_
    · refine Ap.step rfl _ _ 22 (by rfl) w2.heap.size 30 i0 (.agg #[.int .i64 0, .int .i64 0, .int .i64 0, .int .i64 0, .int .i64 0, .string ⟨#[]⟩, .slice none 0 0, .slice none 0 0, .slice none 0 0, .int .i64 0, .int .i64 0, .string ⟨#[]⟩, .slice none 0 0, .slice none 0 0, .slice none 0 0, .int .i64 0]) 16 240 Tryd.underlying22 hi hz0 hz1 hz2 rfl (by decide) (.slice none 0 0) 0 [] (by rfl) (World.ownsRow_nil _ _ _ _) (.slice a k c) k (Sp.flatO vs) (by rfl) (HSRC.out _ ((Below.refl _ w2).drew)) HFL.out HONE.out hk1 hk2 (Nat.le_refl _) ?_
      intro va wa hown hg hat
      have HBa : Hid (Below w2.heap.size w2 wa) := Dt.grown_below ((Below.refl _ w2).drew) hg (Nat.le_refl _) (fun k hk => by cases hk)
      obtain ⟨va1, va3, rfl⟩ := Dt.row_form hown
      rw [Nat.zero_add, List.nil_append] at hown
      rw [Nat.zero_add] at hat
      refine hK.out _ _ ?_ (fun hHeld => ?_)
      · exact HBX.out _ HBa.out
      clear hK K
      try simp only [Act.put, List.setIfInBounds_toArray, List.set_cons_zero, List.set_cons_succ]
      simp only [Nat.zero_add]
      refine wpAnyH_ready (rs := [9]) (by kernel_rfl) (by simp) ?_
      refine AllReadyH.cons (o := ⟨_, _, _, _, _, _⟩) rfl (fun K hK => ?_) AllReadyH.nil
      go_simp
      have HB7 : Hid (Below w2.heap.size w2 (wa.alloc (.cells #[.int .i64 0, .int .i64 0, .int .i64 0, .int .i64 x.k, .int .i64 x.n, .string x.s, .slice a1 n1 q1, .slice a2 n2 q2, .slice a3 n3 q3, .int .i64 y.k, .int .i64 y.n, .string y.s, .slice b1 m1 r1, .slice b2 m2 r2, .slice b3 m3 r3, .int .i64 0] 30))) := HBa.out.alloc HBa.out.size _
      refine hK.out _ _ ?_ (fun hHeld => ?_)
      · exact HBX.out _ HB7.out
      clear hK K
      try simp only [Act.put, List.setIfInBounds_toArray, List.set_cons_zero, List.set_cons_succ]
      refine wpAnyH_ready (rs := [10]) (by kernel_rfl) (by simp) ?_
      refine AllReadyH.cons (o := ⟨_, _, _, _, _, _⟩) rfl (fun K hK => ?_) AllReadyH.nil
      refine Ap.step rfl _ _ 22 (by rfl) w2.heap.size 30 i0 (.agg #[.int .i64 0, .int .i64 0, .int .i64 0, .int .i64 0, .int .i64 0, .string ⟨#[]⟩, .slice none 0 0, .slice none 0 0, .slice none 0 0, .int .i64 0, .int .i64 0, .string ⟨#[]⟩, .slice none 0 0, .slice none 0 0, .slice none 0 0, .int .i64 0]) 16 240 Tryd.underlying22 hi hz0 hz1 hz2 rfl (by decide) (.slice va1 k va3) k (Sp.flatO vs) (by rfl) (hown.alloc _) (.slice (some ⟨wa.heap.size, 0, none⟩) 1 1) 1 [.int .i64 0, .int .i64 0, .int .i64 0, .int .i64 x.k, .int .i64 x.n, .string x.s, .slice a1 n1 q1, .slice a2 n2 q2, .slice a3 n3 q3, .int .i64 y.k, .int .i64 y.n, .string y.s, .slice b1 m1 r1, .slice b2 m2 r2, .slice b3 m3 r3, .int .i64 0] (by rfl) (.inr ⟨_, _, rfl, World.news_of_block (cs := #[.int .i64 0, .int .i64 0, .int .i64 0, .int .i64 x.k, .int .i64 x.n, .string x.s, .slice a1 n1 q1, .slice a2 n2 q2, .slice a3 n3 q3, .int .i64 y.k, .int .i64 y.n, .string y.s, .slice b1 m1 r1, .slice b2 m2 r2, .slice b3 m3 r3, .int .i64 0]) (t := 30) (fr := (0, 0)) (heap_alloc_new wa _)⟩) (by rfl) (by simp [Value.oneCell']) hk3 hk4 HB7.out.size ?_
      intro v8 w8 hown8 hg8 hat8
      have HB8 : Hid (Below w2.heap.size w2 w8) := Dt.grown_below HB7.out hg8 (Nat.le_refl _) (fun k hk => (hown.lt k hk).1)
      obtain ⟨g8, c8, rfl, hsm⟩ := HSM.out v8 w8 hown8 HB8.out
      have HSM8 := Lib.hid hsm
      clear hsm
      refine hK.out _ _ ?_ (fun hHeld => ?_)
      · exact HBX.out _ HB8.out
      clear hK K
      try simp only [Act.put, List.setIfInBounds_toArray, List.set_cons_zero, List.set_cons_succ]
      refine wpAnyH_ready (rs := [11]) (by kernel_rfl) (by simp) ?_
      refine AllReadyH.cons (o := ⟨_, _, _, _, _, _⟩) rfl (fun K hK => ?_) AllReadyH.nil
      go_simp
      refine HSM8.out.mono ?_
      rintro e w9 ⟨V, B, rfl, ⟨V1, V2, V3, rfl⟩, hVB, hb9⟩
      have HB9 := Lib.hid hb9
      have HVB := Lib.hid hVB
      clear hVB hb9
      dsimp only
      refine hK.out _ _ ?_ (fun hHeld => ?_)
      · exact HBX.out _ HB9.out
      clear hK K
      try simp only [Act.put, List.setIfInBounds_toArray, List.set_cons_zero, List.set_cons_succ]
      refine wpAnyH_take (i := 12) (oi := ⟨_, _, _, _, _, _⟩) (v := ?_) rfl (by kernel_rfl) (by kernel_rfl) (by kernel_rfl) (fun _ _ _ h => h) (Or.inl ⟨by rfl, ?_⟩) (by assumption) ?_
      rotate_left
      · intro w hSw
        try dsimp only at hSw
        go_simp
        try with_reducible rfl
      simp only [Act.put, List.setIfInBounds_toArray, List.set_cons_zero, List.set_cons_succ]
      refine wpAnyH_take (i := 13) (oi := ⟨_, _, _, _, _, _⟩) (v := ?_) rfl (by kernel_rfl) (by kernel_rfl) (by kernel_rfl) (fun _ _ _ h => h) (Or.inl ⟨by rfl, ?_⟩) (by assumption) ?_
      rotate_left
      · intro w hSw
        try dsimp only at hSw
        go_simp
        try with_reducible rfl
      simp only [Act.put, List.setIfInBounds_toArray, List.set_cons_zero, List.set_cons_succ]
      refine wpAnyH_take (i := 14) (oi := ⟨_, _, _, _, _, _⟩) (v := ?_) rfl (by kernel_rfl) (by kernel_rfl) (by kernel_rfl) (fun _ _ _ h => h) (Or.inl ⟨by rfl, ?_⟩) (by assumption) ?_
      rotate_left
      · intro w hSw
        try dsimp only at hSw
        go_simp
        try with_reducible rfl
      simp only [Act.put, List.setIfInBounds_toArray, List.set_cons_zero, List.set_cons_succ]
      refine wpAnyH_take (i := 15) (oi := ⟨_, _, _, _, _, _⟩) (v := ?_) rfl (by kernel_rfl) (by kernel_rfl) (by kernel_rfl) (fun _ _ _ h => h) (Or.inl ⟨by rfl, ?_⟩) (by assumption) ?_
      rotate_left
      · intro w hSw
        try dsimp only at hSw
        go_simp
        try with_reducible rfl
      simp only [Act.put, List.setIfInBounds_toArray, List.set_cons_zero, List.set_cons_succ]
      refine wpAnyH_take (i := 16) (oi := ⟨_, _, _, _, _, _⟩) (v := ?_) rfl (by kernel_rfl) (by kernel_rfl) (by kernel_rfl) (fun _ _ _ h => h) (Or.inl ⟨by rfl, ?_⟩) (by assumption) ?_
      rotate_left
      · intro w hSw
        try dsimp only at hSw
        go_simp
        try with_reducible rfl
      simp only [Act.put, List.setIfInBounds_toArray, List.set_cons_zero, List.set_cons_succ]
      refine wpAnyH_done (by kernel_rfl) ?_ _
      refine NoPanic.normal ?_
      go_wp2_with fail
      go_meet
      exact ⟨V1, V2, V3, B, g8, c8, rfl, rfl, HVB.out, HB9.out⟩
    refine AllReadyH.cons (o := ⟨_, _, _, _, _, _⟩) rfl (fun K hK => ?_) AllReadyH.nil
    go_simp
    have HB6 : Hid (Below w2.heap.size w2 (w2.drew.alloc (.cells #[.int .i64 0, .int .i64 0, .int .i64 0, .int .i64 x.k, .int .i64 x.n, .string x.s, .slice a1 n1 q1, .slice a2 n2 q2, .slice a3 n3 q3, .int .i64 y.k, .int .i64 y.n, .string y.s, .slice b1 m1 r1, .slice b2 m2 r2, .slice b3 m3 r3, .int .i64 0] 30))) := ((Below.refl _ w2).drew).alloc (Nat.le_refl _) _
    refine hK.out _ _ ?_ (fun hHeld => ?_)
    · exact HBX.out _ HB6.out
    clear hK K
    try simp only [Act.put, List.setIfInBounds_toArray, List.set_cons_zero, List.set_cons_succ]
    refine wpAnyH_ready (rs := [5]) (by kernel_rfl) (by simp) ?_
    refine AllReadyH.cons (o := ⟨_, _, _, _, _, _⟩) rfl (fun K hK => ?_) AllReadyH.nil
    refine Ap.step rfl _ _ 22 (by rfl) w2.heap.size 30 i0 (.agg #[.int .i64 0, .int .i64 0, .int .i64 0, .int .i64 0, .int .i64 0, .string ⟨#[]⟩, .slice none 0 0, .slice none 0 0, .slice none 0 0, .int .i64 0, .int .i64 0, .string ⟨#[]⟩, .slice none 0 0, .slice none 0 0, .slice none 0 0, .int .i64 0]) 16 240 Tryd.underlying22 hi hz0 hz1 hz2 rfl (by decide) (.slice none 0 0) 0 [] (by rfl) (World.ownsRow_nil _ _ _ _) (.slice a k c) k (Sp.flatO vs) (by rfl) (HSRC.out _ HB6.out) HFL.out HONE.out hk1 hk2 HB6.out.size ?_
    intro va wa hown hg hat
    have HBa : Hid (Below w2.heap.size w2 wa) := Dt.grown_below HB6.out hg (Nat.le_refl _) (fun k hk => by cases hk)
    obtain ⟨va1, va3, rfl⟩ := Dt.row_form hown
    rw [Nat.zero_add, List.nil_append] at hown
    rw [Nat.zero_add] at hat
    refine hK.out _ _ ?_ (fun hHeld => ?_)
    · exact HBX.out _ HBa.out
    clear hK K
    try simp only [Act.put, List.setIfInBounds_toArray, List.set_cons_zero, List.set_cons_succ]
    simp only [Nat.zero_add]
    refine wpAnyH_ready (rs := [10]) (by kernel_rfl) (by simp) ?_
    refine AllReadyH.cons (o := ⟨_, _, _, _, _, _⟩) rfl (fun K hK => ?_) AllReadyH.nil
    refine Ap.step rfl _ _ 22 (by rfl) w2.heap.size 30 i0 (.agg #[.int .i64 0, .int .i64 0, .int .i64 0, .int .i64 0, .int .i64 0, .string ⟨#[]⟩, .slice none 0 0, .slice none 0 0, .slice none 0 0, .int .i64 0, .int .i64 0, .string ⟨#[]⟩, .slice none 0 0, .slice none 0 0, .slice none 0 0, .int .i64 0]) 16 240 Tryd.underlying22 hi hz0 hz1 hz2 rfl (by decide) (.slice va1 k va3) k (Sp.flatO vs) (by rfl) (hown) (.slice (some ⟨w2.drew.heap.size, 0, none⟩) 1 1) 1 [.int .i64 0, .int .i64 0, .int .i64 0, .int .i64 x.k, .int .i64 x.n, .string x.s, .slice a1 n1 q1, .slice a2 n2 q2, .slice a3 n3 q3, .int .i64 y.k, .int .i64 y.n, .string y.s, .slice b1 m1 r1, .slice b2 m2 r2, .slice b3 m3 r3, .int .i64 0] (by rfl) (.inr ⟨_, _, rfl, World.news_of_block (cs := #[.int .i64 0, .int .i64 0, .int .i64 0, .int .i64 x.k, .int .i64 x.n, .string x.s, .slice a1 n1 q1, .slice a2 n2 q2, .slice a3 n3 q3, .int .i64 y.k, .int .i64 y.n, .string y.s, .slice b1 m1 r1, .slice b2 m2 r2, .slice b3 m3 r3, .int .i64 0]) (t := 30) (fr := (0, 0)) ((hg.block _ (by simp) (by simp [Value.ownBlock])).trans (heap_alloc_new _ _))⟩) (by rfl) (by simp [Value.oneCell']) hk3 hk4 HBa.out.size ?_
    intro v8 w8 hown8 hg8 hat8
    have HB8 : Hid (Below w2.heap.size w2 w8) := Dt.grown_below HBa.out hg8 (Nat.le_refl _) (fun k hk => (hown.lt k hk).1)
    obtain ⟨g8, c8, rfl, hsm⟩ := HSM.out v8 w8 hown8 HB8.out
    have HSM8 := Lib.hid hsm
    clear hsm
    refine hK.out _ _ ?_ (fun hHeld => ?_)
    · exact HBX.out _ HB8.out
    clear hK K
    try simp only [Act.put, List.setIfInBounds_toArray, List.set_cons_zero, List.set_cons_succ]
    refine wpAnyH_ready (rs := [11]) (by kernel_rfl) (by simp) ?_
    refine AllReadyH.cons (o := ⟨_, _, _, _, _, _⟩) rfl (fun K hK => ?_) AllReadyH.nil
    go_simp
    refine HSM8.out.mono ?_
    rintro e w9 ⟨V, B, rfl, ⟨V1, V2, V3, rfl⟩, hVB, hb9⟩
    have HB9 := Lib.hid hb9
    have HVB := Lib.hid hVB
    clear hVB hb9
    dsimp only
    refine hK.out _ _ ?_ (fun hHeld => ?_)
    · exact HBX.out _ HB9.out
    clear hK K
    try simp only [Act.put, List.setIfInBounds_toArray, List.set_cons_zero, List.set_cons_succ]
    refine wpAnyH_take (i := 12) (oi := ⟨_, _, _, _, _, _⟩) (v := ?_) rfl (by kernel_rfl) (by kernel_rfl) (by kernel_rfl) (fun _ _ _ h => h) (Or.inl ⟨by rfl, ?_⟩) (by assumption) ?_
    rotate_left
    · intro w hSw
      try dsimp only at hSw
      go_simp
      try with_reducible rfl
    simp only [Act.put, List.setIfInBounds_toArray, List.set_cons_zero, List.set_cons_succ]
    refine wpAnyH_take (i := 13) (oi := ⟨_, _, _, _, _, _⟩) (v := ?_) rfl (by kernel_rfl) (by kernel_rfl) (by kernel_rfl) (fun _ _ _ h => h) (Or.inl ⟨by rfl, ?_⟩) (by assumption) ?_
    rotate_left
    · intro w hSw
      try dsimp only at hSw
      go_simp
      try with_reducible rfl
    simp only [Act.put, List.setIfInBounds_toArray, List.set_cons_zero, List.set_cons_succ]
    refine wpAnyH_take (i := 14) (oi := ⟨_, _, _, _, _, _⟩) (v := ?_) rfl (by kernel_rfl) (by kernel_rfl) (by kernel_rfl) (fun _ _ _ h => h) (Or.inl ⟨by rfl, ?_⟩) (by assumption) ?_
    rotate_left
    · intro w hSw
      try dsimp only at hSw
      go_simp
      try with_reducible rfl
    simp only [Act.put, List.setIfInBounds_toArray, List.set_cons_zero, List.set_cons_succ]
    refine wpAnyH_take (i := 15) (oi := ⟨_, _, _, _, _, _⟩) (v := ?_) rfl (by kernel_rfl) (by kernel_rfl) (by kernel_rfl) (fun _ _ _ h => h) (Or.inl ⟨by rfl, ?_⟩) (by assumption) ?_
    rotate_left
    · intro w hSw
      try dsimp only at hSw
      go_simp
      try with_reducible rfl
    simp only [Act.put, List.setIfInBounds_toArray, List.set_cons_zero, List.set_cons_succ]
    refine wpAnyH_take (i := 16) (oi := ⟨_, _, _, _, _, _⟩) (v := ?_) rfl (by kernel_rfl) (by kernel_rfl) (by kernel_rfl) (fun _ _ _ h => h) (Or.inl ⟨by rfl, ?_⟩) (by assumption) ?_
    rotate_left
    · intro w hSw
      try dsimp only at hSw
      go_simp
      try with_reducible rfl
    simp only [Act.put, List.setIfInBounds_toArray, List.set_cons_zero, List.set_cons_succ]
    refine wpAnyH_done (by kernel_rfl) ?_ _
    refine NoPanic.normal ?_
    go_wp2_with fail
    go_meet
    exact ⟨V1, V2, V3, B, g8, c8, rfl, rfl, HVB.out, HB9.out⟩
  case rest =>
    obtain ⟨V1, V2, V3, B, g8, c8, rfl, rfl, hVB, hb9⟩ := hcut
    obtain ⟨w9, hw9⟩ : ∃ w9, w9 = wc := ⟨_, rfl⟩
    rw [← hw9] at hVB hb9 ⊢
    clear hw9
    have HB9 := Lib.hid hb9
    have haw := spAwake_any w9 (HT.out.on HB9.out)
    clear hb9
    cases B with
    | false =>
      clear hVB
      go_wp2_with (go_at_call 9; refine haw.mono ?_; clear haw; rintro e w10 ⟨rfl, hb10⟩; have HB10 := Lib.hid (HB9.out.trans (hb10.mono HB9.out.size)); have haw := spAwake_any w10 (HT.out.on HB10.out); clear hb10; refine Hid.out ?_)
      refine Lib.hid ?_
      go_wp2_with (go_at_call 9; refine haw.mono ?_; clear haw; rintro e w11 ⟨rfl, hb11⟩; have HB11 := Lib.hid (HB10.out.trans (hb11.mono HB10.out.size)); clear hb11)
      go_ret
      exact ⟨rfl, HB2.out.trans (HB11.out.mono HB2.out.size)⟩
    | true =>
      obtain ⟨hV, hrow⟩ := hVB rfl
      clear hVB
      cases hV
      have hlk : (L.take k).length = k := by rw [List.length_take, HLL.out]; omega
      have hpre := hrow.pre k (by rw [HLL.out]; omega)
      rw [hlk] at hpre
      have hkV : k ≤ V3 := by obtain ⟨a', c', e, h, _⟩ := hpre; obtain ⟨-, -, rfl⟩ := Sp.slice_inj e; rw [hlk] at h; exact h
      have HPRE := Lib.hid hpre
      have hkk : ((k + 1 : Nat) : Int) - 1 = (k : Int) := by omega
      have hk0 : (0 : Int) ≤ (k : Int) := by omega
      clear hrow hpre
      go_wp2_with (go_at_call 9; refine haw.mono ?_; clear haw; rintro e w10 ⟨rfl, hb10⟩; have HB10 := Lib.hid (HB9.out.trans (hb10.mono HB9.out.size)); have hmd := spMade_any (F := fun _ => True) (some ⟨g8, 0, none⟩) V3 (L.take k) w10 (by rw [hlk]; exact HPRE.out.below hb10) (by omega) (HT.out.on HB10.out); rw [hlk] at hmd; clear hb10; refine Hid.out ?_)
      refine Lib.hid ?_
      go_wp2_with (go_at_call 10; refine hmd.mono ?_; clear hmd; rintro e w11 ⟨T, vl, mb, xs, rfl, hti, hb11⟩; obtain ⟨t, ht⟩ : ∃ t, t = Sp.madeT (L.take k) := ⟨_, rfl⟩; rw [← ht] at hti; clear ht; have HTI := Lib.hid hti; have HB11 := Lib.hid (HB10.out.trans (hb11.mono HB10.out.size)); have HBL := Lib.hid hb11.size; clear hti hb11; refine Hid.out ?_)
      refine Lib.hid ?_
      obtain ⟨us, uw, un, e1, hu⟩ := Sp.Seen.eta (Sp.find t s y)
      have hf1 : Calls Tryd.prog 11 #[.pointer (some ⟨T, 0, none⟩), .int .i64 s, .agg #[.int .i64 y.k, .int .i64 y.n, .string y.s, .slice b1 m1 r1, .slice b2 m2 r2, .slice b3 m3 r3]] w11 fun e w' => e = .returned (.tuple #[.agg #[.int .i64 (us : Int), .int .i64 uw, .string un], .int .i64 e1]) ∧ Below w11.heap.size w11 w' := by
        have := spFind_any s y _ _ _ w11 HTI.out.tab HWY.out (HRY.out.below HB11.out) (HT.out.on HB11.out)
        rw [hu] at this
        exact this
      obtain ⟨⟨b0, b1, b2, b3, b4, b5⟩, d0, d1, d2, d3, d4, d5⟩ := HBX.out w11 HB11.out
      go_wp2_with (go_at_call 11; refine hf1.mono ?_; clear hf1; rintro e w12 ⟨rfl, hb12⟩; obtain ⟨w13, hw13⟩ : ∃ w13, w12.alloc (.cells #[.int .i64 (us : Int), .int .i64 uw, .string un] 35) = w13 := ⟨_, rfl⟩; have HB13 := Lib.hid (Sp.below_new hb12 hw13 hb12.size); have HL12 := Lib.hid hb12.size; clear hb12; refine Hid.out ?_)
      refine Lib.hid ?_
      have HT13 := Lib.hid (HTI.out.below HB13.out.1)
      have HB213 := Lib.hid (HB11.out.trans (HB13.out.1.mono HB11.out.size))
      have HL13 : Hid (w10.heap.size ≤ w13.heap.size) := Nat.le_trans HBL.out HB13.out.1.size
      have HS13 : Hid (w13.heap[w12.heap.size]? = some (.cells #[.int .i64 (us : Int), .int .i64 uw, .string un] 35)) := HB13.out.2.2.1
      have hex := spExtend_any s x _ _ _ what w13 HT13.out.tab HL13.out HWX.out (HRX.out.below HB213.out) (HT.out.on HB213.out)
      clear b0 b1 b2 b3 b4 b5 d0 d1 d2 d3 d4 d5
      obtain ⟨⟨b0, b1, b2, b3, b4, b5⟩, d0, d1, d2, d3, d4, d5⟩ := HBX.out w13 HB213.out
      rcases Sp.extend_cases t s x what with ⟨hf0, hn0⟩ | ⟨hput, heq⟩
      · obtain ⟨⟨t', n', f'⟩, hre⟩ : ∃ r, r = Sp.extend t s x what := ⟨_, rfl⟩
        rw [← hre] at hex hf0 hn0
        simp only at hf0 hn0 hex
        subst hn0
        have hf1 : (f' != 0) = true := by simpa using hf0
        clear hre hf0
        go_wp2_with (go_at_call 12; refine hex.mono ?_; clear hex; rintro e w14 ⟨rfl, hpo⟩; obtain ⟨vl4, xs4, hti4, hk4⟩ := HT13.out.ext HL13.out hpo; have HT4 := Lib.hid hti4; have HB4 := Lib.hid (Sp.below_mut HB213.out hk4 HT13.out.tab HB10.out.size (by exact Nat.le_refl _)); clear hpo hti4 hk4)
        go_ret
        exact ⟨rfl, HB2.out.trans (HB4.out.mono HB2.out.size)⟩
      · rw [heq] at hex
        obtain ⟨n, hn⟩ : ∃ n, n = t.l.length := ⟨_, rfl⟩
        have hok := HT13.out.tab.ok
        have HOWN := Lib.hid (Sp.inner_own (n := what) hok hput)
        have HSAME := Lib.hid (fun h => Sp.inner_same (n := what) (other := y) hok hput h)
        have HOTH := Lib.hid (fun h => Sp.inner_other (n := what) (other := y) hok hput h)
        have hml : ∀ z : Sp.Tbl, z.m = t.m → (Sp.allm z x = true ↔ ∀ m ∈ x.m, m ≤ (t.m.length : Int)) := fun z hz => by unfold Sp.allm; rw [hz]; simp
        rw [← hn] at hex HOWN HSAME HOTH
        obtain ⟨t', ht'⟩ : ∃ t' : Sp.Tbl, t' = ⟨t.l ++ [⟨s.toNat, x, what⟩], t.m⟩ := ⟨_, rfl⟩
        have hml' := hml t' (by rw [ht'])
        rw [← ht'] at hex HOWN HSAME HOTH
        clear heq hput hok hn ht' hml
        have HML := Lib.hid hml'
        clear hml'
        go_wp2_with (go_at_call 12; refine hex.mono ?_; clear hex; rintro e w14 ⟨rfl, hpo⟩; obtain ⟨vl4, xs4, hti4, hk4⟩ := HT13.out.ext HL13.out hpo; have HT4 := Lib.hid hti4; have HB4 := Lib.hid (Sp.below_mut HB213.out hk4 HT13.out.tab HB10.out.size (by exact Nat.le_refl _)); have HS4 := Lib.hid ((hk4.block w12.heap.size (Array.getElem?_eq_some_iff.1 HS13.out).1 (fun e => by have := (HTI.out.mut _ e).2; have := HL12.out; omega)).trans HS13.out); clear hpo hti4 hk4; refine Hid.out ?_)
        refine Lib.hid ?_
        clear b0 b1 b2 b3 b4 b5 d0 d1 d2 d3 d4 d5
        have HB4x : Hid (Below w14.heap.size w14 w14) := Below.refl _ _
        obtain ⟨⟨b0, b1, b2, b3, b4, b5⟩, d0, d1, d2, d3, d4, d5⟩ := HBX.out w14 HB4.out
        by_cases hm0 : n1 = 0
        · subst hm0
          have HALL : Hid (∀ m ∈ x.m, m ≤ (t.m.length : Int)) := fun m hm => by rw [List.eq_nil_of_length_eq_zero HN1.out.symm] at hm; cases hm
          have hf2 := spFind_any (n : Int) x _ _ _ w14 (HT4.out.below HB4x.out).tab HWX.out (HRX.out.below HB4.out) (HT.out.on HB4.out)
          rw [HOWN.out HALL.out] at hf2
          simp only [Sp.Seen.val] at hf2
          go_upto_region 13 with (go_at_call 11; refine hf2.mono ?_; clear hf2; rintro e w17 ⟨rfl, hb17⟩; have HB17 := Lib.hid hb17; clear hb17)
          obtain ⟨w18, hw18⟩ : ∃ w18, w17.alloc (.cells #[.int .i64 (n : Int), .int .i64 what, .string ⟨#[]⟩] 35) = w18 := ⟨_, rfl⟩
          rw [hw18]
          have HB18 := Lib.hid (Sp.below_new HB17.out hw18 HB17.out.size)
          have HS18 := Lib.hid ((HB18.out.1.block w12.heap.size (Array.getElem?_eq_some_iff.1 HS4.out).1).trans HS4.out)
          clear hw18
          have HC := Lib.hid (HB4.out.trans (HB18.out.1.mono HB4.out.size))
          have HCx := Lib.hid (HB4x.out.trans (HB18.out.1.mono HB4x.out.size))
          have k0 : w18.cell? ⟨w17.heap.size, 0, none⟩ = some (.int .i64 (n : Int)) := by unfold World.cell?; rw [HB18.out.2.2.1]; rfl
          have k1 : w18.cell? ⟨w17.heap.size, 1, none⟩ = some (.int .i64 what) := by unfold World.cell?; rw [HB18.out.2.2.1]; rfl
          have k2 : w18.cell? ⟨w17.heap.size, 2, none⟩ = some (.string ⟨#[]⟩) := by unfold World.cell?; rw [HB18.out.2.2.1]; rfl
          have EQ := Sp.eqSeen
          clear b0 b1 b2 b3 b4 b5 d0 d1 d2 d3 d4 d5
          obtain ⟨⟨b0, b1, b2, b3, b4, b5⟩, d0, d1, d2, d3, d4, d5⟩ := HBX.out w18 HC.out
          go_upto_region 15 with fail
          clear EQ b0 b1 b2 b3 b4 b5 d0 d1 d2 d3 d4 d5
          have HTn := Lib.hid (HT4.out.below (HCx.out))
          have hf3 := spFind_any (n : Int) y _ _ _ w18 HTn.out.tab HWY.out (HRY.out.below HC.out) (HT.out.on HC.out)
          obtain ⟨vs3, vw3, vn3, e3, hv⟩ := Sp.Seen.eta (Sp.find t' n y)
          rw [hv] at hf3
          simp only [Sp.Seen.val] at hf3
          obtain ⟨⟨b0, b1, b2, b3, b4, b5⟩, d0, d1, d2, d3, d4, d5⟩ := HBX.out w18 HC.out
          have HOTH2 : Hid (Dt.sameD x y = false → vs3 = us ∧ vw3 = uw ∧ vn3 = un ∧ e3 = e1) := fun h => by
            have h9 := HOTH.out h
            rw [hv, hu] at h9
            cases h9
            exact ⟨rfl, rfl, rfl, rfl⟩
          have HSAM2 : Hid (Dt.sameD x y = true → e3 ≠ 0 ∨ vs3 = n) := fun h => by
            have h9 := HSAME.out h
            rw [hv] at h9
            exact h9
          clear hv hu
          go_wp2_with (go_at_call 11; refine hf3.mono ?_; clear hf3; rintro e w20 ⟨rfl, hb20⟩; obtain ⟨w21, hw21⟩ : ∃ w21, w20.alloc (.cells #[.int .i64 (vs3 : Int), .int .i64 vw3, .string vn3] 35) = w21 := ⟨_, rfl⟩; have HB21 := Lib.hid (Sp.below_new hb20 hw21 hb20.size); have HS21 : Hid (w21.heap[w20.heap.size]? = some (.cells #[.int .i64 (vs3 : Int), .int .i64 vw3, .string vn3] 35)) := HB21.out.2.2.1; have HS21x := Lib.hid ((HB21.out.1.block w12.heap.size (Array.getElem?_eq_some_iff.1 HS18.out).1).trans HS18.out); clear hb20; refine Hid.out ?_)
          refine Lib.hid ?_
          have HB221 := Lib.hid (HC.out.trans (HB21.out.1.mono HC.out.size))
          clear b0 b1 b2 b3 b4 b5 d0 d1 d2 d3 d4 d5
          obtain ⟨⟨b0, b1, b2, b3, b4, b5⟩, d0, d1, d2, d3, d4, d5⟩ := HBX.out w21 HB221.out
          have hsm := rSame_any x y _ _ _ _ _ _ w21 HWX.out HWY.out (HRX.out.below HB221.out) (HRY.out.below HB221.out)
          obtain ⟨Q, hQ⟩ : ∃ Q, Q = Dt.sameD x y := ⟨_, rfl⟩
          rw [← hQ] at hsm HSAM2 HOTH2
          clear hQ
          cases Q with
          | true =>
            rcases HSAM2.out rfl with h3 | h3
            · have h3' : (e3 != 0) = true := by simpa using h3
              clear h3
              go_wp2_with (go_at_call 14; refine hsm.mono ?_; clear hsm; rintro e w22 ⟨rfl, hb22⟩; have HB22 := Lib.hid (HB221.out.trans (hb22.mono HB221.out.size)); have HS22 := Lib.hid ((hb22.block w20.heap.size (Array.getElem?_eq_some_iff.1 HS21.out).1).trans HS21.out); have HS22x := Lib.hid ((hb22.block w12.heap.size (Array.getElem?_eq_some_iff.1 HS21x.out).1).trans HS21x.out); clear hb22)
              go_ret
              exact ⟨rfl, HB2.out.trans (HB22.out.mono HB2.out.size)⟩
            · subst h3
              by_cases h4 : e3 = 0
              · subst h4
                go_wp2_with (go_at_call 14; refine hsm.mono ?_; clear hsm; rintro e w22 ⟨rfl, hb22⟩; have HB22 := Lib.hid (HB221.out.trans (hb22.mono HB221.out.size)); have HS22 := Lib.hid ((hb22.block w20.heap.size (Array.getElem?_eq_some_iff.1 HS21.out).1).trans HS21.out); have HS22x := Lib.hid ((hb22.block w12.heap.size (Array.getElem?_eq_some_iff.1 HS21x.out).1).trans HS21x.out); clear hb22; refine Hid.out ?_)
                refine Lib.hid ?_
                have k0 : w22.cell? ⟨w20.heap.size, 0, none⟩ = some (.int .i64 (vs3 : Int)) := by unfold World.cell?; rw [HS22.out]; rfl
                go_wp2
                go_ret
                exact ⟨rfl, HB2.out.trans (HB22.out.mono HB2.out.size)⟩
              · have h4' : (e3 != 0) = true := by simpa using h4
                clear h4
                go_wp2_with (go_at_call 14; refine hsm.mono ?_; clear hsm; rintro e w22 ⟨rfl, hb22⟩; have HB22 := Lib.hid (HB221.out.trans (hb22.mono HB221.out.size)); have HS22 := Lib.hid ((hb22.block w20.heap.size (Array.getElem?_eq_some_iff.1 HS21.out).1).trans HS21.out); have HS22x := Lib.hid ((hb22.block w12.heap.size (Array.getElem?_eq_some_iff.1 HS21x.out).1).trans HS21x.out); clear hb22)
                go_ret
                exact ⟨rfl, HB2.out.trans (HB22.out.mono HB2.out.size)⟩
          | false =>
            obtain ⟨rfl, rfl, rfl, rfl⟩ := HOTH2.out rfl
            go_wp2_with (go_at_call 14; refine hsm.mono ?_; clear hsm; rintro e w22 ⟨rfl, hb22⟩; have HB22 := Lib.hid (HB221.out.trans (hb22.mono HB221.out.size)); have HS22 := Lib.hid ((hb22.block w20.heap.size (Array.getElem?_eq_some_iff.1 HS21.out).1).trans HS21.out); have HS22x := Lib.hid ((hb22.block w12.heap.size (Array.getElem?_eq_some_iff.1 HS21x.out).1).trans HS21x.out); clear hb22; refine Hid.out ?_)
            refine Lib.hid ?_
            have k0 : w22.cell? ⟨w20.heap.size, 0, none⟩ = some (.int .i64 (vs3 : Int)) := by unfold World.cell?; rw [HS22.out]; rfl
            have k1 : w22.cell? ⟨w20.heap.size, 1, none⟩ = some (.int .i64 vw3) := by unfold World.cell?; rw [HS22.out]; rfl
            have k2 : w22.cell? ⟨w20.heap.size, 2, none⟩ = some (.string vn3) := by unfold World.cell?; rw [HS22.out]; rfl
            have l0 : w22.cell? ⟨w12.heap.size, 0, none⟩ = some (.int .i64 (vs3 : Int)) := by unfold World.cell?; rw [HS22x.out]; rfl
            have l1 : w22.cell? ⟨w12.heap.size, 1, none⟩ = some (.int .i64 vw3) := by unfold World.cell?; rw [HS22x.out]; rfl
            have l2 : w22.cell? ⟨w12.heap.size, 2, none⟩ = some (.string vn3) := by unfold World.cell?; rw [HS22x.out]; rfl
            have EQ := Sp.eqSeen
            go_wp2
            go_ret
            exact ⟨rfl, HB2.out.trans (HB22.out.mono HB2.out.size)⟩
        · have hm0' : ((n1 : Int) == 0) = false := by simpa using hm0
          clear hm0
          have hmk := spMarked_any x _ _ _ w14 HT4.out.tab (HRX.out.below HB4.out) (Dt.wf_m HWX.out)
          obtain ⟨A, hA⟩ : ∃ A, A = Sp.allm t' x := ⟨_, rfl⟩
          rw [← hA] at hmk
          have HA : Hid (A = true → ∀ m ∈ x.m, m ≤ (t.m.length : Int)) := fun h => HML.out.1 (hA ▸ h)
          clear hA
          cases A with
          | true =>
            have HALL := Lib.hid (HA.out rfl)
            go_wp2_with (go_at_call 13; refine hmk.mono ?_; clear hmk; rintro e w15 ⟨rfl, hb15⟩; have HD := Lib.hid (HB4.out.trans (hb15.mono HB4.out.size)); have HDx := Lib.hid hb15; have HS15 := Lib.hid ((hb15.block w12.heap.size (Array.getElem?_eq_some_iff.1 HS4.out).1).trans HS4.out); clear hb15; refine Hid.out ?_)
            refine Lib.hid ?_
            clear b0 b1 b2 b3 b4 b5 d0 d1 d2 d3 d4 d5
            obtain ⟨⟨b0, b1, b2, b3, b4, b5⟩, d0, d1, d2, d3, d4, d5⟩ := HBX.out w15 HD.out
            have hf2 := spFind_any (n : Int) x _ _ _ w15 (HT4.out.below HDx.out).tab HWX.out (HRX.out.below HD.out) (HT.out.on HD.out)
            rw [HOWN.out HALL.out] at hf2
            simp only [Sp.Seen.val] at hf2
            go_upto_region 13 with (go_at_call 11; refine hf2.mono ?_; clear hf2; rintro e w17 ⟨rfl, hb17⟩; have HB17 := Lib.hid hb17; clear hb17)
            obtain ⟨w18, hw18⟩ : ∃ w18, w17.alloc (.cells #[.int .i64 (n : Int), .int .i64 what, .string ⟨#[]⟩] 35) = w18 := ⟨_, rfl⟩
            rw [hw18]
            have HB18 := Lib.hid (Sp.below_new HB17.out hw18 HB17.out.size)
            have HS18 := Lib.hid ((HB18.out.1.block w12.heap.size (Array.getElem?_eq_some_iff.1 HS15.out).1).trans HS15.out)
            clear hw18
            have HC := Lib.hid (HD.out.trans (HB18.out.1.mono HD.out.size))
            have HCx := Lib.hid (HDx.out.trans (HB18.out.1.mono HDx.out.size))
            have k0 : w18.cell? ⟨w17.heap.size, 0, none⟩ = some (.int .i64 (n : Int)) := by unfold World.cell?; rw [HB18.out.2.2.1]; rfl
            have k1 : w18.cell? ⟨w17.heap.size, 1, none⟩ = some (.int .i64 what) := by unfold World.cell?; rw [HB18.out.2.2.1]; rfl
            have k2 : w18.cell? ⟨w17.heap.size, 2, none⟩ = some (.string ⟨#[]⟩) := by unfold World.cell?; rw [HB18.out.2.2.1]; rfl
            have EQ := Sp.eqSeen
            clear b0 b1 b2 b3 b4 b5 d0 d1 d2 d3 d4 d5
            obtain ⟨⟨b0, b1, b2, b3, b4, b5⟩, d0, d1, d2, d3, d4, d5⟩ := HBX.out w18 HC.out
            go_upto_region 15 with fail
            clear EQ b0 b1 b2 b3 b4 b5 d0 d1 d2 d3 d4 d5
            have HTn := Lib.hid (HT4.out.below (HCx.out))
            have hf3 := spFind_any (n : Int) y _ _ _ w18 HTn.out.tab HWY.out (HRY.out.below HC.out) (HT.out.on HC.out)
            obtain ⟨vs3, vw3, vn3, e3, hv⟩ := Sp.Seen.eta (Sp.find t' n y)
            rw [hv] at hf3
            simp only [Sp.Seen.val] at hf3
            obtain ⟨⟨b0, b1, b2, b3, b4, b5⟩, d0, d1, d2, d3, d4, d5⟩ := HBX.out w18 HC.out
            have HOTH2 : Hid (Dt.sameD x y = false → vs3 = us ∧ vw3 = uw ∧ vn3 = un ∧ e3 = e1) := fun h => by
              have h9 := HOTH.out h
              rw [hv, hu] at h9
              cases h9
              exact ⟨rfl, rfl, rfl, rfl⟩
            have HSAM2 : Hid (Dt.sameD x y = true → e3 ≠ 0 ∨ vs3 = n) := fun h => by
              have h9 := HSAME.out h
              rw [hv] at h9
              exact h9
            clear hv hu
            go_wp2_with (go_at_call 11; refine hf3.mono ?_; clear hf3; rintro e w20 ⟨rfl, hb20⟩; obtain ⟨w21, hw21⟩ : ∃ w21, w20.alloc (.cells #[.int .i64 (vs3 : Int), .int .i64 vw3, .string vn3] 35) = w21 := ⟨_, rfl⟩; have HB21 := Lib.hid (Sp.below_new hb20 hw21 hb20.size); have HS21 : Hid (w21.heap[w20.heap.size]? = some (.cells #[.int .i64 (vs3 : Int), .int .i64 vw3, .string vn3] 35)) := HB21.out.2.2.1; have HS21x := Lib.hid ((HB21.out.1.block w12.heap.size (Array.getElem?_eq_some_iff.1 HS18.out).1).trans HS18.out); clear hb20; refine Hid.out ?_)
            refine Lib.hid ?_
            have HB221 := Lib.hid (HC.out.trans (HB21.out.1.mono HC.out.size))
            clear b0 b1 b2 b3 b4 b5 d0 d1 d2 d3 d4 d5
            obtain ⟨⟨b0, b1, b2, b3, b4, b5⟩, d0, d1, d2, d3, d4, d5⟩ := HBX.out w21 HB221.out
            have hsm := rSame_any x y _ _ _ _ _ _ w21 HWX.out HWY.out (HRX.out.below HB221.out) (HRY.out.below HB221.out)
            obtain ⟨Q, hQ⟩ : ∃ Q, Q = Dt.sameD x y := ⟨_, rfl⟩
            rw [← hQ] at hsm HSAM2 HOTH2
            clear hQ
            cases Q with
            | true =>
              rcases HSAM2.out rfl with h3 | h3
              · have h3' : (e3 != 0) = true := by simpa using h3
                clear h3
                go_wp2_with (go_at_call 14; refine hsm.mono ?_; clear hsm; rintro e w22 ⟨rfl, hb22⟩; have HB22 := Lib.hid (HB221.out.trans (hb22.mono HB221.out.size)); have HS22 := Lib.hid ((hb22.block w20.heap.size (Array.getElem?_eq_some_iff.1 HS21.out).1).trans HS21.out); have HS22x := Lib.hid ((hb22.block w12.heap.size (Array.getElem?_eq_some_iff.1 HS21x.out).1).trans HS21x.out); clear hb22)
                go_ret
                exact ⟨rfl, HB2.out.trans (HB22.out.mono HB2.out.size)⟩
              · subst h3
                by_cases h4 : e3 = 0
                · subst h4
                  go_wp2_with (go_at_call 14; refine hsm.mono ?_; clear hsm; rintro e w22 ⟨rfl, hb22⟩; have HB22 := Lib.hid (HB221.out.trans (hb22.mono HB221.out.size)); have HS22 := Lib.hid ((hb22.block w20.heap.size (Array.getElem?_eq_some_iff.1 HS21.out).1).trans HS21.out); have HS22x := Lib.hid ((hb22.block w12.heap.size (Array.getElem?_eq_some_iff.1 HS21x.out).1).trans HS21x.out); clear hb22; refine Hid.out ?_)
                  refine Lib.hid ?_
                  have k0 : w22.cell? ⟨w20.heap.size, 0, none⟩ = some (.int .i64 (vs3 : Int)) := by unfold World.cell?; rw [HS22.out]; rfl
                  go_wp2
                  go_ret
                  exact ⟨rfl, HB2.out.trans (HB22.out.mono HB2.out.size)⟩
                · have h4' : (e3 != 0) = true := by simpa using h4
                  clear h4
                  go_wp2_with (go_at_call 14; refine hsm.mono ?_; clear hsm; rintro e w22 ⟨rfl, hb22⟩; have HB22 := Lib.hid (HB221.out.trans (hb22.mono HB221.out.size)); have HS22 := Lib.hid ((hb22.block w20.heap.size (Array.getElem?_eq_some_iff.1 HS21.out).1).trans HS21.out); have HS22x := Lib.hid ((hb22.block w12.heap.size (Array.getElem?_eq_some_iff.1 HS21x.out).1).trans HS21x.out); clear hb22)
                  go_ret
                  exact ⟨rfl, HB2.out.trans (HB22.out.mono HB2.out.size)⟩
            | false =>
              obtain ⟨rfl, rfl, rfl, rfl⟩ := HOTH2.out rfl
              go_wp2_with (go_at_call 14; refine hsm.mono ?_; clear hsm; rintro e w22 ⟨rfl, hb22⟩; have HB22 := Lib.hid (HB221.out.trans (hb22.mono HB221.out.size)); have HS22 := Lib.hid ((hb22.block w20.heap.size (Array.getElem?_eq_some_iff.1 HS21.out).1).trans HS21.out); have HS22x := Lib.hid ((hb22.block w12.heap.size (Array.getElem?_eq_some_iff.1 HS21x.out).1).trans HS21x.out); clear hb22; refine Hid.out ?_)
              refine Lib.hid ?_
              have k0 : w22.cell? ⟨w20.heap.size, 0, none⟩ = some (.int .i64 (vs3 : Int)) := by unfold World.cell?; rw [HS22.out]; rfl
              have k1 : w22.cell? ⟨w20.heap.size, 1, none⟩ = some (.int .i64 vw3) := by unfold World.cell?; rw [HS22.out]; rfl
              have k2 : w22.cell? ⟨w20.heap.size, 2, none⟩ = some (.string vn3) := by unfold World.cell?; rw [HS22.out]; rfl
              have l0 : w22.cell? ⟨w12.heap.size, 0, none⟩ = some (.int .i64 (vs3 : Int)) := by unfold World.cell?; rw [HS22x.out]; rfl
              have l1 : w22.cell? ⟨w12.heap.size, 1, none⟩ = some (.int .i64 vw3) := by unfold World.cell?; rw [HS22x.out]; rfl
              have l2 : w22.cell? ⟨w12.heap.size, 2, none⟩ = some (.string vn3) := by unfold World.cell?; rw [HS22x.out]; rfl
              have EQ := Sp.eqSeen
              go_wp2
              go_ret
              exact ⟨rfl, HB2.out.trans (HB22.out.mono HB2.out.size)⟩
          | false =>
            go_wp2_with (go_at_call 13; refine hmk.mono ?_; clear hmk; rintro e w15 ⟨rfl, hb15⟩; have HD := Lib.hid (HB4.out.trans (hb15.mono HB4.out.size)); have HDx := Lib.hid hb15; have HS15 := Lib.hid ((hb15.block w12.heap.size (Array.getElem?_eq_some_iff.1 HS4.out).1).trans HS4.out); clear hb15; refine Hid.out ?_)
            refine Lib.hid ?_
            clear b0 b1 b2 b3 b4 b5 d0 d1 d2 d3 d4 d5
            have HTn := Lib.hid (HT4.out.below (HDx.out))
            have hf3 := spFind_any (n : Int) y _ _ _ w15 HTn.out.tab HWY.out (HRY.out.below HD.out) (HT.out.on HD.out)
            obtain ⟨vs3, vw3, vn3, e3, hv⟩ := Sp.Seen.eta (Sp.find t' n y)
            rw [hv] at hf3
            simp only [Sp.Seen.val] at hf3
            obtain ⟨⟨b0, b1, b2, b3, b4, b5⟩, d0, d1, d2, d3, d4, d5⟩ := HBX.out w15 HD.out
            have HOTH2 : Hid (Dt.sameD x y = false → vs3 = us ∧ vw3 = uw ∧ vn3 = un ∧ e3 = e1) := fun h => by
              have h9 := HOTH.out h
              rw [hv, hu] at h9
              cases h9
              exact ⟨rfl, rfl, rfl, rfl⟩
            have HSAM2 : Hid (Dt.sameD x y = true → e3 ≠ 0 ∨ vs3 = n) := fun h => by
              have h9 := HSAME.out h
              rw [hv] at h9
              exact h9
            clear hv hu
            go_wp2_with (go_at_call 11; refine hf3.mono ?_; clear hf3; rintro e w20 ⟨rfl, hb20⟩; obtain ⟨w21, hw21⟩ : ∃ w21, w20.alloc (.cells #[.int .i64 (vs3 : Int), .int .i64 vw3, .string vn3] 35) = w21 := ⟨_, rfl⟩; have HB21 := Lib.hid (Sp.below_new hb20 hw21 hb20.size); have HS21 : Hid (w21.heap[w20.heap.size]? = some (.cells #[.int .i64 (vs3 : Int), .int .i64 vw3, .string vn3] 35)) := HB21.out.2.2.1; have HS21x := Lib.hid ((HB21.out.1.block w12.heap.size (Array.getElem?_eq_some_iff.1 HS15.out).1).trans HS15.out); clear hb20; refine Hid.out ?_)
            refine Lib.hid ?_
            have HB221 := Lib.hid (HD.out.trans (HB21.out.1.mono HD.out.size))
            clear b0 b1 b2 b3 b4 b5 d0 d1 d2 d3 d4 d5
            obtain ⟨⟨b0, b1, b2, b3, b4, b5⟩, d0, d1, d2, d3, d4, d5⟩ := HBX.out w21 HB221.out
            have hsm := rSame_any x y _ _ _ _ _ _ w21 HWX.out HWY.out (HRX.out.below HB221.out) (HRY.out.below HB221.out)
            obtain ⟨Q, hQ⟩ : ∃ Q, Q = Dt.sameD x y := ⟨_, rfl⟩
            rw [← hQ] at hsm HSAM2 HOTH2
            clear hQ
            cases Q with
            | true =>
              rcases HSAM2.out rfl with h3 | h3
              · have h3' : (e3 != 0) = true := by simpa using h3
                clear h3
                go_wp2_with (go_at_call 14; refine hsm.mono ?_; clear hsm; rintro e w22 ⟨rfl, hb22⟩; have HB22 := Lib.hid (HB221.out.trans (hb22.mono HB221.out.size)); have HS22 := Lib.hid ((hb22.block w20.heap.size (Array.getElem?_eq_some_iff.1 HS21.out).1).trans HS21.out); have HS22x := Lib.hid ((hb22.block w12.heap.size (Array.getElem?_eq_some_iff.1 HS21x.out).1).trans HS21x.out); clear hb22)
                go_ret
                exact ⟨rfl, HB2.out.trans (HB22.out.mono HB2.out.size)⟩
              · subst h3
                by_cases h4 : e3 = 0
                · subst h4
                  go_wp2_with (go_at_call 14; refine hsm.mono ?_; clear hsm; rintro e w22 ⟨rfl, hb22⟩; have HB22 := Lib.hid (HB221.out.trans (hb22.mono HB221.out.size)); have HS22 := Lib.hid ((hb22.block w20.heap.size (Array.getElem?_eq_some_iff.1 HS21.out).1).trans HS21.out); have HS22x := Lib.hid ((hb22.block w12.heap.size (Array.getElem?_eq_some_iff.1 HS21x.out).1).trans HS21x.out); clear hb22; refine Hid.out ?_)
                  refine Lib.hid ?_
                  have k0 : w22.cell? ⟨w20.heap.size, 0, none⟩ = some (.int .i64 (vs3 : Int)) := by unfold World.cell?; rw [HS22.out]; rfl
                  go_wp2
                  go_ret
                  exact ⟨rfl, HB2.out.trans (HB22.out.mono HB2.out.size)⟩
                · have h4' : (e3 != 0) = true := by simpa using h4
                  clear h4
                  go_wp2_with (go_at_call 14; refine hsm.mono ?_; clear hsm; rintro e w22 ⟨rfl, hb22⟩; have HB22 := Lib.hid (HB221.out.trans (hb22.mono HB221.out.size)); have HS22 := Lib.hid ((hb22.block w20.heap.size (Array.getElem?_eq_some_iff.1 HS21.out).1).trans HS21.out); have HS22x := Lib.hid ((hb22.block w12.heap.size (Array.getElem?_eq_some_iff.1 HS21x.out).1).trans HS21x.out); clear hb22)
                  go_ret
                  exact ⟨rfl, HB2.out.trans (HB22.out.mono HB2.out.size)⟩
            | false =>
              obtain ⟨rfl, rfl, rfl, rfl⟩ := HOTH2.out rfl
              go_wp2_with (go_at_call 14; refine hsm.mono ?_; clear hsm; rintro e w22 ⟨rfl, hb22⟩; have HB22 := Lib.hid (HB221.out.trans (hb22.mono HB221.out.size)); have HS22 := Lib.hid ((hb22.block w20.heap.size (Array.getElem?_eq_some_iff.1 HS21.out).1).trans HS21.out); have HS22x := Lib.hid ((hb22.block w12.heap.size (Array.getElem?_eq_some_iff.1 HS21x.out).1).trans HS21x.out); clear hb22; refine Hid.out ?_)
              refine Lib.hid ?_
              have k0 : w22.cell? ⟨w20.heap.size, 0, none⟩ = some (.int .i64 (vs3 : Int)) := by unfold World.cell?; rw [HS22.out]; rfl
              have k1 : w22.cell? ⟨w20.heap.size, 1, none⟩ = some (.int .i64 vw3) := by unfold World.cell?; rw [HS22.out]; rfl
              have k2 : w22.cell? ⟨w20.heap.size, 2, none⟩ = some (.string vn3) := by unfold World.cell?; rw [HS22.out]; rfl
              have l0 : w22.cell? ⟨w12.heap.size, 0, none⟩ = some (.int .i64 (vs3 : Int)) := by unfold World.cell?; rw [HS22x.out]; rfl
              have l1 : w22.cell? ⟨w12.heap.size, 1, none⟩ = some (.int .i64 vw3) := by unfold World.cell?; rw [HS22x.out]; rfl
              have l2 : w22.cell? ⟨w12.heap.size, 2, none⟩ = some (.string vn3) := by unfold World.cell?; rw [HS22x.out]; rfl
              have EQ := Sp.eqSeen
              go_wp2
              go_ret
              exact ⟨rfl, HB2.out.trans (HB22.out.mono HB2.out.size)⟩
end Go.Proofs.YtjbjgceblanhpaaDoor
