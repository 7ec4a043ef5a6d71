/-
  shuttlelaw05.ScopeAlike: its walk.
-/
import Derived.Test.YtjbjgceblanhpaaDoorSpRow
import Derived.Test.YtjbjgceblanhpaaDoorSpAlikeP
import Derived.Test.YtjbjgceblanhpaaDoorSpNoneW
import Derived.Deep.DeepCutAuto
import Derived.Deep.MidRow
namespace Go.Proofs.YtjbjgceblanhpaaDoor
open Go.RowKit
attribute [local go_sem] Oper.semAt_some
theorem Sp.info18 : (Tryd.prog.info? 45).map (·.size) = some 18 := by kernel_rfl
@[local go_sem] theorem Sp.ix0 (v0 v1 v2 v3 v4 v5 v6 v7 v8 v9 v10 v11 v12 v13 v14 v15 v16 v17 : Value) (w : World) : (Instr.index 45 (.agg #[v0, v1, v2, v3, v4, v5, v6, v7, v8, v9, v10, v11, v12, v13, v14, v15, v16, v17]) (.int .i64 0)).run Tryd.prog w = .ok (.agg #[v0, v1, v2, v3, v4, v5]) w := by kernel_rfl
@[local go_sem] theorem Sp.ix1 (v0 v1 v2 v3 v4 v5 v6 v7 v8 v9 v10 v11 v12 v13 v14 v15 v16 v17 : Value) (w : World) : (Instr.index 45 (.agg #[v0, v1, v2, v3, v4, v5, v6, v7, v8, v9, v10, v11, v12, v13, v14, v15, v16, v17]) (.int .i64 1)).run Tryd.prog w = .ok (.agg #[v6, v7, v8, v9, v10, v11]) w := by kernel_rfl
@[local go_sem] theorem Sp.ix2 (v0 v1 v2 v3 v4 v5 v6 v7 v8 v9 v10 v11 v12 v13 v14 v15 v16 v17 : Value) (w : World) : (Instr.index 45 (.agg #[v0, v1, v2, v3, v4, v5, v6, v7, v8, v9, v10, v11, v12, v13, v14, v15, v16, v17]) (.int .i64 2)).run Tryd.prog w = .ok (.agg #[v12, v13, v14, v15, v16, v17]) w := by kernel_rfl
set_option maxRecDepth 100000 in
set_option maxHeartbeats 8000000 in
theorem ScopeAlike_walk (a : Option Addr) (c : Nat) (l : List Sp.O) (a' : Option Addr) (c' : Nat) (l' : List Sp.O) (s0 s1 s2 : Int) (x y z : Dt.D) (e0 e1 e2 e3 e4 e5 e6 e7 e8 : Value) (w : World) (hI : Sp.InRow w a c l) (hI' : Sp.InRow w a' c' l') (hW : Dt.Wf x ∧ Dt.Wf y ∧ Dt.Wf z) (hR : Dt.Rep (fun _ => True) w x e0 e1 e2 ∧ Dt.Rep (fun _ => True) w y e3 e4 e5 ∧ Dt.Rep (fun _ => True) w z e6 e7 e8) (hT : Sp.T10 w) :
    Calls Tryd.prog 4 #[.slice a l.length c, .slice a' l'.length c', .agg #[.int .i64 s0, .int .i64 s1, .int .i64 s2], .agg #[.int .i64 x.k, .int .i64 x.n, .string x.s, e0, e1, e2, .int .i64 y.k, .int .i64 y.n, .string y.s, e3, e4, e5, .int .i64 z.k, .int .i64 z.n, .string z.s, e6, e7, e8]] w fun e w' => e = .returned (.bool true) ∧ Below w.heap.size w w' := by
  obtain ⟨⟨hWx, hWy, hWz⟩, hRx, hRy, hRz⟩ := And.intro hW hR
  obtain ⟨a0, n0, q0, a1, n1, q1, a2, n2, q2, rfl, rfl, rfl⟩ := hRx.forms
  obtain ⟨a3, n3, q3, a4, n4, q4, a5, n5, q5, rfl, rfl, rfl⟩ := hRy.forms
  obtain ⟨a6, n6, q6, a7, n7, q7, a8, n8, q8, rfl, rfl, rfl⟩ := hRz.forms
  obtain ⟨w2, hw2⟩ : ∃ w2, (w.alloc (.cells #[.int .i64 s0, .int .i64 s1, .int .i64 s2] 44)).alloc (.cells #[.int .i64 x.k, .int .i64 x.n, .string x.s, .slice a0 n0 q0, .slice a1 n1 q1, .slice a2 n2 q2, .int .i64 y.k, .int .i64 y.n, .string y.s, .slice a3 n3 q3, .slice a4 n4 q4, .slice a5 n5 q5, .int .i64 z.k, .int .i64 z.n, .string z.s, .slice a6 n6 q6, .slice a7 n7 q7, .slice a8 n8 q8] 45) = w2 := ⟨_, rfl⟩
  obtain ⟨hb2, h18, h3, hs2⟩ := Sp.two_alloc (Below.refl _ w) hw2 (Nat.le_refl _)
  obtain ⟨i0, hi, hz0, hz1, hz2⟩ := info_parts Sp.infoO
  obtain ⟨k, hk⟩ : ∃ k, k = min l.length 40 := ⟨_, rfl⟩
  have hkl : k ≤ l.length := by omega
  have hk40 : k ≤ 40 := by omega
  have hlc : l.length ≤ c := by obtain ⟨a', c', e, h, _⟩ := hI.row; obtain ⟨-, -, rfl⟩ := Sp.slice_inj e; exact h
  have hl63 := hI.len
  have hkc : k ≤ c := by omega
  have hkci : (k : Int) ≤ (c : Int) := by omega
  have hmin : min (l.length : Int) 40 = (k : Int) := by omega
  obtain ⟨vs, hv1, hv2, hv3, hv4⟩ := hI.src k hkl
  have HFL : Hid ((Sp.flatO vs).length = k * 16) := by show _ = _; rw [Sp.flatO_length, hv2]
  have HONE := Lib.hid (Sp.flat_one hv3)
  have HSRC : Hid (∀ u, Below w2.heap.size w2 u → Ap.Src u (.slice a k c) k (Sp.flatO vs)) := fun u hu => by
    have hbu := hb2.trans (hu.mono hb2.size)
    rcases hv4 with ⟨h1, h2, h3⟩ | ⟨ad, c', h1, h2⟩
    · exact .inl ⟨h1, h2, h3⟩
    · exact .inr ⟨ad, c', h1, fun j v hv => (hbu.cell (World.block_lt_of_cell? w _ (h2 j v hv))).trans (h2 j v hv)⟩
  have hk1 : 0 + k ≤ maxLen := by unfold maxLen; omega
  have hk2 : (0 + k) * 240 ≤ 140737488355328 := by omega
  obtain ⟨o0, ho0⟩ : ∃ ov : Sp.OV, ov = ⟨⟨2, 0, 0, x, Sp.dz, 0⟩, .slice a0 n0 q0, .slice a1 n1 q1, .slice a2 n2 q2, .slice none 0 0, .slice none 0 0, .slice none 0 0⟩ := ⟨_, rfl⟩
  obtain ⟨o1, ho1⟩ : ∃ ov : Sp.OV, ov = ⟨⟨2, 0, 0, y, Sp.dz, 0⟩, .slice a3 n3 q3, .slice a4 n4 q4, .slice a5 n5 q5, .slice none 0 0, .slice none 0 0, .slice none 0 0⟩ := ⟨_, rfl⟩
  obtain ⟨o2, ho2⟩ : ∃ ov : Sp.OV, ov = ⟨⟨2, 0, 0, z, Sp.dz, 0⟩, .slice a6 n6 q6, .slice a7 n7 q7, .slice a8 n8 q8, .slice none 0 0, .slice none 0 0, .slice none 0 0⟩ := ⟨_, rfl⟩
  have HF0 : Hid (Sp.flatO (vs ++ [o0]) = Sp.flatO (vs ++ []) ++ [.int .i64 2, .int .i64 0, .int .i64 0, .int .i64 x.k, .int .i64 x.n, .string x.s, .slice a0 n0 q0, .slice a1 n1 q1, .slice a2 n2 q2, .int .i64 0, .int .i64 0, .string ⟨#[]⟩, .slice none 0 0, .slice none 0 0, .slice none 0 0, .int .i64 0]) := by show _ = _; rw [List.append_nil, Sp.flatO_app, Sp.flatO_one, ho0]; rfl
  have HF1 : Hid (Sp.flatO (vs ++ [o0, o1]) = Sp.flatO (vs ++ [o0]) ++ [.int .i64 2, .int .i64 0, .int .i64 0, .int .i64 y.k, .int .i64 y.n, .string y.s, .slice a3 n3 q3, .slice a4 n4 q4, .slice a5 n5 q5, .int .i64 0, .int .i64 0, .string ⟨#[]⟩, .slice none 0 0, .slice none 0 0, .slice none 0 0, .int .i64 0]) := by show _ = _; rw [show vs ++ [o0, o1] = (vs ++ [o0]) ++ [o1] by simp, Sp.flatO_app (vs ++ [o0]), Sp.flatO_one, ho1]; rfl
  have HF2 : Hid (Sp.flatO (vs ++ [o0, o1, o2]) = Sp.flatO (vs ++ [o0, o1]) ++ [.int .i64 2, .int .i64 0, .int .i64 0, .int .i64 z.k, .int .i64 z.n, .string z.s, .slice a6 n6 q6, .slice a7 n7 q7, .slice a8 n8 q8, .int .i64 0, .int .i64 0, .string ⟨#[]⟩, .slice none 0 0, .slice none 0 0, .slice none 0 0, .int .i64 0]) := by show _ = _; rw [show vs ++ [o0, o1, o2] = (vs ++ [o0, o1]) ++ [o2] by simp, Sp.flatO_app (vs ++ [o0, o1]), Sp.flatO_one, ho2]; rfl
  obtain ⟨L, hL⟩ : ∃ L, L = l.take k ++ [(⟨2, 0, 0, x, Sp.dz, 0⟩ : Sp.O), ⟨2, 0, 0, y, Sp.dz, 0⟩, ⟨2, 0, 0, z, Sp.dz, 0⟩] := ⟨_, rfl⟩
  have hLm : (vs ++ [o0, o1, o2]).map Sp.OV.x = L := by rw [List.map_append, hv1, hL, ho0, ho1, ho2]; rfl
  have hLl : L.length = k + 3 := by rw [hL, List.length_append, List.length_take]; simp; omega
  have HLL := Lib.hid hLl
  have HSM : Hid (∀ v8 w8, w8.ownsRow w2.heap.size 30 16 v8 (k + 3) (Sp.flatO (vs ++ [o0, o1, o2])) → Below w2.heap.size w2 w8 → ∃ g8 c8, v8 = .slice (some ⟨g8, 0, none⟩) (k + 3) c8 ∧ Sp.ORow (fun _ => True) w8 (.slice (some ⟨g8, 0, none⟩) L.length c8) L ∧
      Calls Tryd.prog 8 #[.slice (some ⟨g8, 0, none⟩) (k + 3) c8] w8 fun e w9 => ∃ V B, e = .returned (.tuple #[V, .bool B]) ∧ (∃ V1 V2 V3, V = .slice V1 V2 V3) ∧ (B = true → V = .slice (some ⟨g8, 0, none⟩) (k + 3) c8) ∧ Below w8.heap.size w8 w9) := by
    intro v8 w8 hown hb8
    have hbb := hb2.trans (hb8.mono hb2.size)
    have hgood : ∀ v ∈ vs ++ [o0, o1, o2], v.Good (fun _ => True) w8 := by
      intro v hv
      rcases List.mem_append.1 hv with hv | hv
      · exact (hv3 v hv).below hbb
      · simp only [List.mem_cons, List.not_mem_nil, or_false] at hv
        rcases hv with rfl | rfl | rfl
        · rw [ho0]; exact ⟨hRx.below hbb, Dt.rep_zero _ _, hWx, Sp.wfz⟩
        · rw [ho1]; exact ⟨hRy.below hbb, Dt.rep_zero _ _, hWy, Sp.wfz⟩
        · rw [ho2]; exact ⟨hRz.below hbb, Dt.rep_zero _ _, hWz, Sp.wfz⟩
    rcases hown.2 with ⟨rfl, h0⟩ | ⟨g, cap, cur, rfl, -⟩
    · omega
    · have hrow := Sp.ORow.of_own hown (by rw [List.length_append, hv2]; simp) hgood
      rw [hLm] at hrow
      refine ⟨g, cap, rfl, hrow, ?_⟩
      rw [show k + 3 = L.length by omega]
      refine (spSmall_any _ _ L w8 hrow (by omega)).mono ?_
      rintro e w9 ⟨rfl, hb9⟩
      refine ⟨_, _, rfl, by split <;> exact ⟨_, _, _, rfl⟩, fun hB => ?_, hb9⟩
      rw [if_pos hB, show min L.length 60 = L.length by omega]
  obtain ⟨M, hM⟩ : ∃ M, M = l'.take 60 := ⟨_, rfl⟩
  obtain ⟨m, hm⟩ : ∃ m, m = M.length := ⟨_, rfl⟩
  have hm' : min l'.length 60 = m := by rw [hm, hM, List.length_take]; omega
  have hm60 : m ≤ 60 := by omega
  have HMO : Hid (Sp.ORow (fun _ => True) w (.slice a' M.length c') M) := by
    have h9 := hI'.row.pre (min l'.length 60) (by omega)
    have e9 : l'.take (min l'.length 60) = M := by
      rw [hM]
      by_cases h : l'.length ≤ 60
      · rw [Nat.min_eq_left h, List.take_length, List.take_of_length_le h]
      · rw [Nat.min_eq_right (by omega)]
    rw [e9] at h9
    exact h9
  have HMM := Lib.hid hm
  have HSM2 : Hid (∀ u, Below w2.heap.size w2 u → Calls Tryd.prog 8 #[.slice a' l'.length c'] u fun e w9 => ∃ V B, e = .returned (.tuple #[V, .bool B]) ∧ (∃ V1 V2 V3, V = .slice V1 V2 V3) ∧ (B = true → V = .slice a' m c') ∧ Below u.heap.size u w9) := by
    intro u hu
    refine (spSmall_any a' c' l' u ((hI'.row.keep (S := fun _ => False) ((Keep.refl _ w).below (hb2.trans (hu.mono hb2.size))) (fun _ _ _ h => h))) hI'.len).mono ?_
    rintro e w9 ⟨rfl, hb9⟩
    refine ⟨_, _, rfl, by split <;> exact ⟨_, _, _, rfl⟩, fun hB => ?_, hb9⟩
    rw [if_pos hB, hm']
  have HB3 : Hid (∀ u, Below w2.heap.size w2 u → ∀ i v, #[.int .i64 s0, .int .i64 s1, .int .i64 s2][i]? = some v → u.cell? ⟨w.heap.size, i, none⟩ = some v) := fun u hu i v h => by
    have h9 := (hu.block _ (Array.getElem?_eq_some_iff.1 h3).1).trans h3
    unfold World.cell?
    rw [h9]
    exact h
  have HB18 : Hid (∀ u, Below w2.heap.size w2 u → ∀ i v, #[.int .i64 x.k, .int .i64 x.n, .string x.s, .slice a0 n0 q0, .slice a1 n1 q1, .slice a2 n2 q2, .int .i64 y.k, .int .i64 y.n, .string y.s, .slice a3 n3 q3, .slice a4 n4 q4, .slice a5 n5 q5, .int .i64 z.k, .int .i64 z.n, .string z.s, .slice a6 n6 q6, .slice a7 n7 q7, .slice a8 n8 q8][i]? = some v → u.cell? ⟨w.heap.size + 1, i, none⟩ = some v) := fun u hu i v h => by
    have h9 := (hu.block _ (Array.getElem?_eq_some_iff.1 h18).1).trans h18
    unfold World.cell?
    rw [h9]
    exact h
  have HRX := Lib.hid (hRx.below hb2)
  have HRY := Lib.hid (hRy.below hb2)
  have HRZ := Lib.hid (hRz.below hb2)
  have HWX := Lib.hid hWx
  have HWY := Lib.hid hWy
  have HWZ := Lib.hid hWz
  have HT := Lib.hid (hT.on hb2)
  have HB2 := Lib.hid hb2
  clear hk hI hI' hv1 hv2 hv3 hv4 ho0 ho1 ho2 hL hLm hLl hRx hRy hRz hWx hWy hWz hW hR hT hb2 hs2 h18 h3 hlc hM hm hm'
  go_enter Tryd.func4, Tryd.ntmps4
  go_upto_region 2 with (at_builtin; refine Ap.list rfl _ _ 22 rfl w2.heap.size 30 i0 (.agg #[.int .i64 0, .int .i64 0, .int .i64 0, .int .i64 0, .int .i64 0, .string ⟨#[]⟩, .slice none 0 0, .slice none 0 0, .slice none 0 0, .int .i64 0, .int .i64 0, .string ⟨#[]⟩, .slice none 0 0, .slice none 0 0, .slice none 0 0, .int .i64 0]) 16 240 Tryd.underlying22 hi hz0 hz1 hz2 rfl (by decide) (.slice none 0 0) 0 [] rfl (World.ownsRow_nil _ _ _ _) (.slice a k c) k (Sp.flatO vs) rfl (HSRC.out _ (Below.refl _ w2)) HFL.out HONE.out hk1 hk2 (Nat.le_refl _) ?_; intro va wa hown hg hat; obtain ⟨pa, ca, rfl⟩ := Dt.row_form hown; have HBa : Hid (Below w2.heap.size w2 wa) := Dt.grown_below (Below.refl _ w2) hg (Nat.le_refl _) (fun k hk => by cases hk); have HOa : Hid (wa.ownsRow w2.heap.size 30 16 (.slice pa (k + 0) ca) (k + 0) (Sp.flatO (vs ++ []))) := (by show World.ownsRow _ _ _ _ _ _ _; rw [Nat.zero_add, List.nil_append] at hown; rw [List.append_nil]; exact hown); clear hown hg hat)
  try simp only [Nat.zero_add]
  have HCS : Hid (wa.rangeAt (w.heap.size + 1) 0 [.int .i64 x.k, .int .i64 x.n, .string x.s, .slice a0 n0 q0, .slice a1 n1 q1, .slice a2 n2 q2, .int .i64 y.k, .int .i64 y.n, .string y.s, .slice a3 n3 q3, .slice a4 n4 q4, .slice a5 n5 q5, .int .i64 z.k, .int .i64 z.n, .string z.s, .slice a6 n6 q6, .slice a7 n7 q7, .slice a8 n8 q8]) := by
    show World.rangeAt _ _ _ _
    intro j v hv
    rw [Nat.zero_add]
    exact HB18.out _ HBa.out j v (by rw [List.getElem?_toArray]; exact hv)
  have HINF : Hid ((Tryd.prog.info? 45).map (·.size) = some ([.int .i64 x.k, .int .i64 x.n, .string x.s, .slice a0 n0 q0, .slice a1 n1 q1, .slice a2 n2 q2, .int .i64 y.k, .int .i64 y.n, .string y.s, .slice a3 n3 q3, .slice a4 n4 q4, .slice a5 n5 q5, .int .i64 z.k, .int .i64 z.n, .string z.s, .slice a6 n6 q6, .slice a7 n7 q7, .slice a8 n8 q8] : List Value).length) := by show _ = _; exact Sp.info18
  go_wp2_with (with_reducible refine wpList_load_mid rfl 45 (.tmp 7) rfl (w.heap.size + 1) 0 rfl [.int .i64 x.k, .int .i64 x.n, .string x.s, .slice a0 n0 q0, .slice a1 n1 q1, .slice a2 n2 q2, .int .i64 y.k, .int .i64 y.n, .string y.s, .slice a3 n3 q3, .slice a4 n4 q4, .slice a5 n5 q5, .int .i64 z.k, .int .i64 z.n, .string z.s, .slice a6 n6 q6, .slice a7 n7 q7, .slice a8 n8 q8] _ HCS.out Tryd.underlying45 rfl HINF.out ?_)
  clear HCS HINF
  go_loopw [9, 35] (fun v9 v35 wr => ∃ j : Nat, ((j = 0 ∧ v35 = .int .i64 0) ∨ (j = 1 ∧ v35 = .int .i64 1) ∨ (j = 2 ∧ v35 = .int .i64 2) ∨ (j = 3 ∧ v35 = .int .i64 3)) ∧ ∃ p cq, v9 = .slice p (k + j) cq ∧ Hid (wr.ownsRow w2.heap.size 30 16 (.slice p (k + j) cq) (k + j) (Sp.flatO (vs ++ [o0, o1, o2].take j))) ∧ Hid (Below w2.heap.size w2 wr)) (fun _ i _ => 3 - (intOf i).toNat)
  case atStart => exact ⟨0, .inl ⟨rfl, rfl⟩, pa, ca, rfl, HOa, HBa⟩
  case round =>
    obtain ⟨j, hj, p, cq, rfl, HOR, HBR⟩ := hrel
    rcases hj with ⟨rfl, rfl⟩ | ⟨rfl, rfl⟩ | ⟨rfl, rfl⟩ | ⟨rfl, rfl⟩
    · obtain ⟨wB, hwB⟩ : ∃ wB, wr.alloc (.cells #[.int .i64 x.k, .int .i64 x.n, .string x.s, .slice a0 n0 q0, .slice a1 n1 q1, .slice a2 n2 q2] 26) = wB := ⟨_, rfl⟩
      have HNB := Lib.hid (Sp.below_new HBR.out hwB HBR.out.size)
      have HOW : Hid (wB.ownsRow w2.heap.size 30 16 (.slice p (k + 0) cq) (k + 0) (Sp.flatO (vs ++ []))) := by show World.ownsRow _ _ _ _ _ _ _; rw [← hwB]; exact HOR.out.alloc _
      have nb : ∀ i v, #[.int .i64 x.k, .int .i64 x.n, .string x.s, .slice a0 n0 q0, .slice a1 n1 q1, .slice a2 n2 q2][i]? = some v → wB.cell? ⟨wr.heap.size, i, none⟩ = some v := fun i v h => by unfold World.cell?; rw [HNB.out.2.2.1]; exact h
      have l0 := nb 0 _ rfl
      have l1 := nb 1 _ rfl
      have l2 := nb 2 _ rfl
      have l3 := nb 3 _ rfl
      have l4 := nb 4 _ rfl
      have l5 := nb 5 _ rfl
      have hm1 : k + 0 + 1 ≤ maxLen := by unfold maxLen; omega
      have hm2 : (k + 0 + 1) * 240 ≤ 140737488355328 := by omega
      clear nb
      go_wp2_with (at_builtin; refine Ap.list rfl _ _ 22 rfl w2.heap.size 30 i0 (.agg #[.int .i64 0, .int .i64 0, .int .i64 0, .int .i64 0, .int .i64 0, .string ⟨#[]⟩, .slice none 0 0, .slice none 0 0, .slice none 0 0, .int .i64 0, .int .i64 0, .string ⟨#[]⟩, .slice none 0 0, .slice none 0 0, .slice none 0 0, .int .i64 0]) 16 240 Tryd.underlying22 hi hz0 hz1 hz2 rfl (by decide) (.slice p (k + 0) cq) (k + 0) (Sp.flatO (vs ++ [])) rfl (HOW.out.alloc _) (.slice (some ⟨wB.heap.size, 0, none⟩) 1 1) 1 [.int .i64 2, .int .i64 0, .int .i64 0, .int .i64 x.k, .int .i64 x.n, .string x.s, .slice a0 n0 q0, .slice a1 n1 q1, .slice a2 n2 q2, .int .i64 0, .int .i64 0, .string ⟨#[]⟩, .slice none 0 0, .slice none 0 0, .slice none 0 0, .int .i64 0] rfl (.inr ⟨_, _, rfl, World.news_of_block (cs := #[.int .i64 2, .int .i64 0, .int .i64 0, .int .i64 x.k, .int .i64 x.n, .string x.s, .slice a0 n0 q0, .slice a1 n1 q1, .slice a2 n2 q2, .int .i64 0, .int .i64 0, .string ⟨#[]⟩, .slice none 0 0, .slice none 0 0, .slice none 0 0, .int .i64 0]) (t := 30) (fr := (0, 0)) (heap_alloc_new wB _)⟩) rfl (by simp [Value.oneCell']) hm1 hm2 (by have := HNB.out.1.size; simp; omega) ?_; intro v' w5 hown hg hat; obtain ⟨p5, c5, rfl⟩ := Dt.row_form hown; have HB5 : Hid (Below w2.heap.size w2 w5) := Dt.grown_below (HNB.out.1.alloc HNB.out.1.size _) hg (Nat.le_refl _) (fun k hk => (HOW.out.lt k hk).1); have HO5 : Hid (w5.ownsRow w2.heap.size 30 16 (.slice p5 (k + 1) c5) (k + 1) (Sp.flatO (vs ++ [o0]))) := (by show World.ownsRow _ _ _ _ _ _ _; rw [HF0.out]; exact hown); clear hown hg hat)
      go_roundw
      case rel => exact ⟨1, by simp, p5, c5, rfl, HO5, HB5⟩
      case measure => simp [intOf]
    · obtain ⟨wB, hwB⟩ : ∃ wB, wr.alloc (.cells #[.int .i64 y.k, .int .i64 y.n, .string y.s, .slice a3 n3 q3, .slice a4 n4 q4, .slice a5 n5 q5] 26) = wB := ⟨_, rfl⟩
      have HNB := Lib.hid (Sp.below_new HBR.out hwB HBR.out.size)
      have HOW : Hid (wB.ownsRow w2.heap.size 30 16 (.slice p (k + 1) cq) (k + 1) (Sp.flatO (vs ++ [o0]))) := by show World.ownsRow _ _ _ _ _ _ _; rw [← hwB]; exact HOR.out.alloc _
      have nb : ∀ i v, #[.int .i64 y.k, .int .i64 y.n, .string y.s, .slice a3 n3 q3, .slice a4 n4 q4, .slice a5 n5 q5][i]? = some v → wB.cell? ⟨wr.heap.size, i, none⟩ = some v := fun i v h => by unfold World.cell?; rw [HNB.out.2.2.1]; exact h
      have l0 := nb 0 _ rfl
      have l1 := nb 1 _ rfl
      have l2 := nb 2 _ rfl
      have l3 := nb 3 _ rfl
      have l4 := nb 4 _ rfl
      have l5 := nb 5 _ rfl
      have hm1 : k + 1 + 1 ≤ maxLen := by unfold maxLen; omega
      have hm2 : (k + 1 + 1) * 240 ≤ 140737488355328 := by omega
      clear nb
      go_wp2_with (at_builtin; refine Ap.list rfl _ _ 22 rfl w2.heap.size 30 i0 (.agg #[.int .i64 0, .int .i64 0, .int .i64 0, .int .i64 0, .int .i64 0, .string ⟨#[]⟩, .slice none 0 0, .slice none 0 0, .slice none 0 0, .int .i64 0, .int .i64 0, .string ⟨#[]⟩, .slice none 0 0, .slice none 0 0, .slice none 0 0, .int .i64 0]) 16 240 Tryd.underlying22 hi hz0 hz1 hz2 rfl (by decide) (.slice p (k + 1) cq) (k + 1) (Sp.flatO (vs ++ [o0])) rfl (HOW.out.alloc _) (.slice (some ⟨wB.heap.size, 0, none⟩) 1 1) 1 [.int .i64 2, .int .i64 0, .int .i64 0, .int .i64 y.k, .int .i64 y.n, .string y.s, .slice a3 n3 q3, .slice a4 n4 q4, .slice a5 n5 q5, .int .i64 0, .int .i64 0, .string ⟨#[]⟩, .slice none 0 0, .slice none 0 0, .slice none 0 0, .int .i64 0] rfl (.inr ⟨_, _, rfl, World.news_of_block (cs := #[.int .i64 2, .int .i64 0, .int .i64 0, .int .i64 y.k, .int .i64 y.n, .string y.s, .slice a3 n3 q3, .slice a4 n4 q4, .slice a5 n5 q5, .int .i64 0, .int .i64 0, .string ⟨#[]⟩, .slice none 0 0, .slice none 0 0, .slice none 0 0, .int .i64 0]) (t := 30) (fr := (0, 0)) (heap_alloc_new wB _)⟩) rfl (by simp [Value.oneCell']) hm1 hm2 (by have := HNB.out.1.size; simp; omega) ?_; intro v' w5 hown hg hat; obtain ⟨p5, c5, rfl⟩ := Dt.row_form hown; have HB5 : Hid (Below w2.heap.size w2 w5) := Dt.grown_below (HNB.out.1.alloc HNB.out.1.size _) hg (Nat.le_refl _) (fun k hk => (HOW.out.lt k hk).1); have HO5 : Hid (w5.ownsRow w2.heap.size 30 16 (.slice p5 (k + 2) c5) (k + 2) (Sp.flatO (vs ++ [o0, o1]))) := (by show World.ownsRow _ _ _ _ _ _ _; rw [HF1.out]; exact hown); clear hown hg hat)
      go_roundw
      case rel => exact ⟨2, by simp, p5, c5, rfl, HO5, HB5⟩
      case measure => simp [intOf]
    · obtain ⟨wB, hwB⟩ : ∃ wB, wr.alloc (.cells #[.int .i64 z.k, .int .i64 z.n, .string z.s, .slice a6 n6 q6, .slice a7 n7 q7, .slice a8 n8 q8] 26) = wB := ⟨_, rfl⟩
      have HNB := Lib.hid (Sp.below_new HBR.out hwB HBR.out.size)
      have HOW : Hid (wB.ownsRow w2.heap.size 30 16 (.slice p (k + 2) cq) (k + 2) (Sp.flatO (vs ++ [o0, o1]))) := by show World.ownsRow _ _ _ _ _ _ _; rw [← hwB]; exact HOR.out.alloc _
      have nb : ∀ i v, #[.int .i64 z.k, .int .i64 z.n, .string z.s, .slice a6 n6 q6, .slice a7 n7 q7, .slice a8 n8 q8][i]? = some v → wB.cell? ⟨wr.heap.size, i, none⟩ = some v := fun i v h => by unfold World.cell?; rw [HNB.out.2.2.1]; exact h
      have l0 := nb 0 _ rfl
      have l1 := nb 1 _ rfl
      have l2 := nb 2 _ rfl
      have l3 := nb 3 _ rfl
      have l4 := nb 4 _ rfl
      have l5 := nb 5 _ rfl
      have hm1 : k + 2 + 1 ≤ maxLen := by unfold maxLen; omega
      have hm2 : (k + 2 + 1) * 240 ≤ 140737488355328 := by omega
      clear nb
      go_wp2_with (at_builtin; refine Ap.list rfl _ _ 22 rfl w2.heap.size 30 i0 (.agg #[.int .i64 0, .int .i64 0, .int .i64 0, .int .i64 0, .int .i64 0, .string ⟨#[]⟩, .slice none 0 0, .slice none 0 0, .slice none 0 0, .int .i64 0, .int .i64 0, .string ⟨#[]⟩, .slice none 0 0, .slice none 0 0, .slice none 0 0, .int .i64 0]) 16 240 Tryd.underlying22 hi hz0 hz1 hz2 rfl (by decide) (.slice p (k + 2) cq) (k + 2) (Sp.flatO (vs ++ [o0, o1])) rfl (HOW.out.alloc _) (.slice (some ⟨wB.heap.size, 0, none⟩) 1 1) 1 [.int .i64 2, .int .i64 0, .int .i64 0, .int .i64 z.k, .int .i64 z.n, .string z.s, .slice a6 n6 q6, .slice a7 n7 q7, .slice a8 n8 q8, .int .i64 0, .int .i64 0, .string ⟨#[]⟩, .slice none 0 0, .slice none 0 0, .slice none 0 0, .int .i64 0] rfl (.inr ⟨_, _, rfl, World.news_of_block (cs := #[.int .i64 2, .int .i64 0, .int .i64 0, .int .i64 z.k, .int .i64 z.n, .string z.s, .slice a6 n6 q6, .slice a7 n7 q7, .slice a8 n8 q8, .int .i64 0, .int .i64 0, .string ⟨#[]⟩, .slice none 0 0, .slice none 0 0, .slice none 0 0, .int .i64 0]) (t := 30) (fr := (0, 0)) (heap_alloc_new wB _)⟩) rfl (by simp [Value.oneCell']) hm1 hm2 (by have := HNB.out.1.size; simp; omega) ?_; intro v' w5 hown hg hat; obtain ⟨p5, c5, rfl⟩ := Dt.row_form hown; have HB5 : Hid (Below w2.heap.size w2 w5) := Dt.grown_below (HNB.out.1.alloc HNB.out.1.size _) hg (Nat.le_refl _) (fun k hk => (HOW.out.lt k hk).1); have HO5 : Hid (w5.ownsRow w2.heap.size 30 16 (.slice p5 (k + 3) c5) (k + 3) (Sp.flatO (vs ++ [o0, o1, o2]))) := (by show World.ownsRow _ _ _ _ _ _ _; rw [HF2.out]; exact hown); clear hown hg hat)
      go_roundw
      case rel => exact ⟨3, by simp, p5, c5, rfl, HO5, HB5⟩
      case measure => simp [intOf]
    · obtain ⟨g8, c8, e8, hrow, hsm⟩ := HSM.out _ _ HOR.out HBR.out
      cases e8
      have HROW := Lib.hid hrow
      clear hrow
      go_wp2_with (go_at_call 8; refine hsm.mono ?_; clear hsm; rintro e w9 ⟨V, B1, rfl, ⟨V1, V2, V3, rfl⟩, hVB, hb9⟩; have HB9 := Lib.hid (HBR.out.trans (hb9.mono HBR.out.size)); have HR9 := Lib.hid (HROW.out.below hb9); have HVB := Lib.hid hVB; have hsm2 := HSM2.out w9 HB9.out; clear hb9 hVB; refine Hid.out ?_)
      refine Lib.hid ?_
      go_wp2_with (go_at_call 8; refine hsm2.mono ?_; clear hsm2; rintro e w10 ⟨U, B2, rfl, ⟨U1, U2, U3, rfl⟩, hUB, hb10⟩; have HB10 := Lib.hid (HB9.out.trans (hb10.mono HB9.out.size)); have HR10 := Lib.hid (HR9.out.below hb10); have HUB := Lib.hid hUB; have haw := spAwake_any w10 (HT.out.on HB10.out); clear hb10 hUB; refine Hid.out ?_)
      refine Lib.hid ?_
      go_wp2_with (go_at_call 9; refine haw.mono ?_; clear haw; rintro e w11 ⟨rfl, hb11⟩; have HB11 := Lib.hid (HB10.out.trans (hb11.mono HB10.out.size)); have HR11 := Lib.hid (HR10.out.below hb11); have haw := spAwake_any w11 (HT.out.on HB11.out); clear hb11; refine Hid.out ?_)
      refine Lib.hid ?_
      cases B1 with
      | false =>
        go_wp2_with (go_at_call 9; refine haw.mono ?_; clear haw; rintro e w12 ⟨rfl, hb12⟩; have HB12 := Lib.hid (HB11.out.trans (hb12.mono HB11.out.size)); clear hb12)
        go_ret
        exact ⟨rfl, HB2.out.trans (HB12.out.mono HB2.out.size)⟩
      | true =>
        cases B2 with
        | false =>
          go_wp2_with (go_at_call 9; refine haw.mono ?_; clear haw; rintro e w12 ⟨rfl, hb12⟩; have HB12 := Lib.hid (HB11.out.trans (hb12.mono HB11.out.size)); clear hb12)
          go_ret
          exact ⟨rfl, HB2.out.trans (HB12.out.mono HB2.out.size)⟩
        | true =>
          have hV := HVB.out rfl
          have hU := HUB.out rfl
          cases hV
          cases hU
          clear haw HVB HUB
          obtain ⟨t, ht⟩ : ∃ t, t = Sp.madeT L := ⟨_, rfl⟩
          have hmd := spMade_any (F := fun _ => True) (some ⟨g8, 0, none⟩) cq L w11 HR11.out (by have := HLL.out; omega) (HT.out.on HB11.out)
          rw [← ht, HLL.out] at hmd
          clear ht
          go_wp2_with (go_at_call 10; refine hmd.mono ?_; clear hmd; rintro e w12 ⟨T, vl, mb, xs, rfl, hti, hb12⟩; have HTI := Lib.hid hti; have HB12r := Lib.hid hb12; have HB12 := Lib.hid (HB11.out.trans (hb12.mono HB11.out.size)); have HBL := Lib.hid hb12.size; clear hti hb12; refine Hid.out ?_)
          refine Lib.hid ?_
          obtain ⟨⟨X0, E0⟩, hs0⟩ : ∃ r, r = Sp.same t s0 x s1 y := ⟨_, rfl⟩
          obtain ⟨⟨X1, E1⟩, hs1⟩ : ∃ r, r = Sp.same t s1 y s2 z := ⟨_, rfl⟩
          obtain ⟨⟨X2, E2⟩, hs2⟩ : ∃ r, r = Sp.same t s0 x s2 z := ⟨_, rfl⟩
          obtain ⟨⟨X3, E3⟩, hs3⟩ : ∃ r, r = Sp.same t s1 y s0 x := ⟨_, rfl⟩
          have H0 : Hid (∀ W, Below w12.heap.size w12 W → Calls Tryd.prog 15 #[.pointer (some ⟨T, 0, none⟩), .int .i64 s0, .agg #[.int .i64 x.k, .int .i64 x.n, .string x.s, .slice a0 n0 q0, .slice a1 n1 q1, .slice a2 n2 q2], .int .i64 s1, .agg #[.int .i64 y.k, .int .i64 y.n, .string y.s, .slice a3 n3 q3, .slice a4 n4 q4, .slice a5 n5 q5]] W fun e w' => e = .returned (.tuple #[.bool X0, .int .i64 E0]) ∧ Below W.heap.size W w') := fun W hW => by
            have hbw := HB12.out.trans (hW.mono HB12.out.size)
            have := spSame_any s0 s1 x y _ _ _ _ _ _ W (HTI.out.below hW).tab HWX.out (HRX.out.below hbw) HWY.out (HRY.out.below hbw) (HT.out.on hbw)
            rw [← hs0] at this
            exact this
          have H1 : Hid (∀ W, Below w12.heap.size w12 W → Calls Tryd.prog 15 #[.pointer (some ⟨T, 0, none⟩), .int .i64 s1, .agg #[.int .i64 y.k, .int .i64 y.n, .string y.s, .slice a3 n3 q3, .slice a4 n4 q4, .slice a5 n5 q5], .int .i64 s2, .agg #[.int .i64 z.k, .int .i64 z.n, .string z.s, .slice a6 n6 q6, .slice a7 n7 q7, .slice a8 n8 q8]] W fun e w' => e = .returned (.tuple #[.bool X1, .int .i64 E1]) ∧ Below W.heap.size W w') := fun W hW => by
            have hbw := HB12.out.trans (hW.mono HB12.out.size)
            have := spSame_any s1 s2 y z _ _ _ _ _ _ W (HTI.out.below hW).tab HWY.out (HRY.out.below hbw) HWZ.out (HRZ.out.below hbw) (HT.out.on hbw)
            rw [← hs1] at this
            exact this
          have H2 : Hid (∀ W, Below w12.heap.size w12 W → Calls Tryd.prog 15 #[.pointer (some ⟨T, 0, none⟩), .int .i64 s0, .agg #[.int .i64 x.k, .int .i64 x.n, .string x.s, .slice a0 n0 q0, .slice a1 n1 q1, .slice a2 n2 q2], .int .i64 s2, .agg #[.int .i64 z.k, .int .i64 z.n, .string z.s, .slice a6 n6 q6, .slice a7 n7 q7, .slice a8 n8 q8]] W fun e w' => e = .returned (.tuple #[.bool X2, .int .i64 E2]) ∧ Below W.heap.size W w') := fun W hW => by
            have hbw := HB12.out.trans (hW.mono HB12.out.size)
            have := spSame_any s0 s2 x z _ _ _ _ _ _ W (HTI.out.below hW).tab HWX.out (HRX.out.below hbw) HWZ.out (HRZ.out.below hbw) (HT.out.on hbw)
            rw [← hs2] at this
            exact this
          have H3 : Hid (∀ W, Below w12.heap.size w12 W → Calls Tryd.prog 15 #[.pointer (some ⟨T, 0, none⟩), .int .i64 s1, .agg #[.int .i64 y.k, .int .i64 y.n, .string y.s, .slice a3 n3 q3, .slice a4 n4 q4, .slice a5 n5 q5], .int .i64 s0, .agg #[.int .i64 x.k, .int .i64 x.n, .string x.s, .slice a0 n0 q0, .slice a1 n1 q1, .slice a2 n2 q2]] W fun e w' => e = .returned (.tuple #[.bool X3, .int .i64 E3]) ∧ Below W.heap.size W w') := fun W hW => by
            have hbw := HB12.out.trans (hW.mono HB12.out.size)
            have := spSame_any s1 s0 y x _ _ _ _ _ _ W (HTI.out.below hW).tab HWY.out (HRY.out.below hbw) HWX.out (HRX.out.below hbw) (HT.out.on hbw)
            rw [← hs3] at this
            exact this
          have HX0 : Hid (E0 ≠ 0 → X0 = false) := fun h => by
            have := Sp.same_err (t := t) (a := s0) (b := s1) (x := x) (y := y) (by rw [← hs0]; exact h)
            rw [← hs0] at this
            exact this
          have HXA : Hid (E0 = 0 → E1 = 0 → E2 = 0 → E3 = 0 ∧ X3 = X0 ∧ (X0 = true → X1 = true → X2 = true)) := fun h0 h1 h2 => by
            have g0 : (Sp.same t s0 x s1 y).2 = 0 := by rw [← hs0]; exact h0
            have g1 : (Sp.same t s1 y s2 z).2 = 0 := by rw [← hs1]; exact h1
            have g2 : (Sp.same t s0 x s2 z).2 = 0 := by rw [← hs2]; exact h2
            have gb := Sp.same_back g0
            rw [← hs3, ← hs0] at gb
            have g3 := Sp.same_third g0 g1 g2
            rw [← hs0, ← hs1, ← hs2] at g3
            cases gb
            exact ⟨h0, rfl, g3⟩
          have hokt := HTI.out.tab.ok
          have HXM : Hid (E0 = 0 → ∀ N : List Sp.O, Sp.same (N.foldl Sp.step t) s0 x s1 y = (X0, 0)) := fun h0 N => by
            have g0 : (Sp.same t s0 x s1 y).2 = 0 := by rw [← hs0]; exact h0
            have := Sp.same_more hokt N g0
            rw [← hs0, h0] at this
            exact this
          clear hs0 hs1 hs2 hs3 hokt
          have hc := H0.out w12 (Below.refl _ _)
          have HBC : Hid (Below w12.heap.size w12 w12) := Below.refl _ _
          have b0 := HB3.out _ HB12.out 0 _ rfl
          have b1 := HB3.out _ HB12.out 1 _ rfl
          have b2 := HB3.out _ HB12.out 2 _ rfl
          have d0 := HB18.out _ HB12.out 0 _ rfl
          have d1 := HB18.out _ HB12.out 1 _ rfl
          have d2 := HB18.out _ HB12.out 2 _ rfl
          have d3 := HB18.out _ HB12.out 3 _ rfl
          have d4 := HB18.out _ HB12.out 4 _ rfl
          have d5 := HB18.out _ HB12.out 5 _ rfl
          have d6 := HB18.out _ HB12.out 6 _ rfl
          have d7 := HB18.out _ HB12.out 7 _ rfl
          have d8 := HB18.out _ HB12.out 8 _ rfl
          have d9 := HB18.out _ HB12.out 9 _ rfl
          have d10 := HB18.out _ HB12.out 10 _ rfl
          have d11 := HB18.out _ HB12.out 11 _ rfl
          have d12 := HB18.out _ HB12.out 12 _ rfl
          have d13 := HB18.out _ HB12.out 13 _ rfl
          have d14 := HB18.out _ HB12.out 14 _ rfl
          have d15 := HB18.out _ HB12.out 15 _ rfl
          have d16 := HB18.out _ HB12.out 16 _ rfl
          have d17 := HB18.out _ HB12.out 17 _ rfl
          go_wp2_with (go_at_call 15; refine hc.mono ?_; clear hc; rintro e w13 ⟨rfl, hbq⟩; have HB13c := Lib.hid (HBC.out.trans (hbq.mono HBC.out.size)); have HB13 := Lib.hid (HB12.out.trans (HB13c.out.mono HB12.out.size)); have hc := H1.out w13 HB13c.out; clear hbq; refine Hid.out ?_)
          refine Lib.hid ?_
          clear b0 b1 b2 d0 d1 d2 d3 d4 d5 d6 d7 d8 d9 d10 d11 d12 d13 d14 d15 d16 d17
          have b0 := HB3.out _ HB13.out 0 _ rfl
          have b1 := HB3.out _ HB13.out 1 _ rfl
          have b2 := HB3.out _ HB13.out 2 _ rfl
          have d0 := HB18.out _ HB13.out 0 _ rfl
          have d1 := HB18.out _ HB13.out 1 _ rfl
          have d2 := HB18.out _ HB13.out 2 _ rfl
          have d3 := HB18.out _ HB13.out 3 _ rfl
          have d4 := HB18.out _ HB13.out 4 _ rfl
          have d5 := HB18.out _ HB13.out 5 _ rfl
          have d6 := HB18.out _ HB13.out 6 _ rfl
          have d7 := HB18.out _ HB13.out 7 _ rfl
          have d8 := HB18.out _ HB13.out 8 _ rfl
          have d9 := HB18.out _ HB13.out 9 _ rfl
          have d10 := HB18.out _ HB13.out 10 _ rfl
          have d11 := HB18.out _ HB13.out 11 _ rfl
          have d12 := HB18.out _ HB13.out 12 _ rfl
          have d13 := HB18.out _ HB13.out 13 _ rfl
          have d14 := HB18.out _ HB13.out 14 _ rfl
          have d15 := HB18.out _ HB13.out 15 _ rfl
          have d16 := HB18.out _ HB13.out 16 _ rfl
          have d17 := HB18.out _ HB13.out 17 _ rfl
          go_wp2_with (go_at_call 15; refine hc.mono ?_; clear hc; rintro e w14 ⟨rfl, hbq⟩; have HB14c := Lib.hid (HB13c.out.trans (hbq.mono HB13c.out.size)); have HB14 := Lib.hid (HB12.out.trans (HB14c.out.mono HB12.out.size)); have hc := H2.out w14 HB14c.out; clear hbq; refine Hid.out ?_)
          refine Lib.hid ?_
          clear b0 b1 b2 d0 d1 d2 d3 d4 d5 d6 d7 d8 d9 d10 d11 d12 d13 d14 d15 d16 d17
          have b0 := HB3.out _ HB14.out 0 _ rfl
          have b1 := HB3.out _ HB14.out 1 _ rfl
          have b2 := HB3.out _ HB14.out 2 _ rfl
          have d0 := HB18.out _ HB14.out 0 _ rfl
          have d1 := HB18.out _ HB14.out 1 _ rfl
          have d2 := HB18.out _ HB14.out 2 _ rfl
          have d3 := HB18.out _ HB14.out 3 _ rfl
          have d4 := HB18.out _ HB14.out 4 _ rfl
          have d5 := HB18.out _ HB14.out 5 _ rfl
          have d6 := HB18.out _ HB14.out 6 _ rfl
          have d7 := HB18.out _ HB14.out 7 _ rfl
          have d8 := HB18.out _ HB14.out 8 _ rfl
          have d9 := HB18.out _ HB14.out 9 _ rfl
          have d10 := HB18.out _ HB14.out 10 _ rfl
          have d11 := HB18.out _ HB14.out 11 _ rfl
          have d12 := HB18.out _ HB14.out 12 _ rfl
          have d13 := HB18.out _ HB14.out 13 _ rfl
          have d14 := HB18.out _ HB14.out 14 _ rfl
          have d15 := HB18.out _ HB14.out 15 _ rfl
          have d16 := HB18.out _ HB14.out 16 _ rfl
          have d17 := HB18.out _ HB14.out 17 _ rfl
          go_wp2_with (go_at_call 15; refine hc.mono ?_; clear hc; rintro e w15 ⟨rfl, hbq⟩; have HB15c := Lib.hid (HB14c.out.trans (hbq.mono HB14c.out.size)); have HB15 := Lib.hid (HB12.out.trans (HB15c.out.mono HB12.out.size)); have hc := H3.out w15 HB15c.out; clear hbq; refine Hid.out ?_)
          refine Lib.hid ?_
          clear b0 b1 b2 d0 d1 d2 d3 d4 d5 d6 d7 d8 d9 d10 d11 d12 d13 d14 d15 d16 d17
          have b0 := HB3.out _ HB15.out 0 _ rfl
          have b1 := HB3.out _ HB15.out 1 _ rfl
          have b2 := HB3.out _ HB15.out 2 _ rfl
          have d0 := HB18.out _ HB15.out 0 _ rfl
          have d1 := HB18.out _ HB15.out 1 _ rfl
          have d2 := HB18.out _ HB15.out 2 _ rfl
          have d3 := HB18.out _ HB15.out 3 _ rfl
          have d4 := HB18.out _ HB15.out 4 _ rfl
          have d5 := HB18.out _ HB15.out 5 _ rfl
          have d6 := HB18.out _ HB15.out 6 _ rfl
          have d7 := HB18.out _ HB15.out 7 _ rfl
          have d8 := HB18.out _ HB15.out 8 _ rfl
          have d9 := HB18.out _ HB15.out 9 _ rfl
          have d10 := HB18.out _ HB15.out 10 _ rfl
          have d11 := HB18.out _ HB15.out 11 _ rfl
          have d12 := HB18.out _ HB15.out 12 _ rfl
          have d13 := HB18.out _ HB15.out 13 _ rfl
          have d14 := HB18.out _ HB15.out 14 _ rfl
          have d15 := HB18.out _ HB15.out 15 _ rfl
          have d16 := HB18.out _ HB15.out 16 _ rfl
          have d17 := HB18.out _ HB15.out 17 _ rfl
          go_wp2_with (go_at_call 15; refine hc.mono ?_; clear hc; rintro e w16 ⟨rfl, hbq⟩; have HB16c := Lib.hid (HB15c.out.trans (hbq.mono HB15c.out.size)); have HB16 := Lib.hid (HB12.out.trans (HB16c.out.mono HB12.out.size)); clear hbq; refine Hid.out ?_)
          refine Lib.hid ?_
          clear b0 b1 b2 d0 d1 d2 d3 d4 d5 d6 d7 d8 d9 d10 d11 d12 d13 d14 d15 d16 d17
          by_cases h0 : E0 = 0
          case neg =>
            have h0' : (E0 != 0) = true := by simpa using h0
            have hx0 := HX0.out h0
            subst hx0
            clear h0
            go_wp2
            go_ret
            exact ⟨rfl, HB2.out.trans (HB16.out.mono HB2.out.size)⟩
          subst h0
          by_cases h1 : E1 = 0
          case neg =>
            have h1' : (E1 != 0) = true := by simpa using h1
            clear h1
            cases X0 with
            | true =>
              go_wp2
              go_ret
              exact ⟨rfl, HB2.out.trans (HB16.out.mono HB2.out.size)⟩
            | false =>
              go_wp2
              go_ret
              exact ⟨rfl, HB2.out.trans (HB16.out.mono HB2.out.size)⟩
          subst h1
          by_cases h2 : E2 = 0
          case neg =>
            have h2' : (E2 != 0) = true := by simpa using h2
            clear h2
            cases X0 with
            | true =>
              go_wp2
              go_ret
              exact ⟨rfl, HB2.out.trans (HB16.out.mono HB2.out.size)⟩
            | false =>
              go_wp2
              go_ret
              exact ⟨rfl, HB2.out.trans (HB16.out.mono HB2.out.size)⟩
          subst h2
          obtain ⟨rfl, rfl, hx3⟩ := HXA.out rfl rfl rfl
          have HX3 := Lib.hid hx3
          clear hx3
          go_upto_region 20 with fail
          go_cut [153] (fun v153 wx => v153 = .bool false ∧ wx = w16)
          case first =>
            cases X3 with
            | false =>
              go_wp2
              go_meet
              exact ⟨rfl, rfl⟩
            | true =>
              cases X1 with
              | false =>
                go_wp2
                go_meet
                exact ⟨rfl, rfl⟩
              | true =>
                obtain rfl := HX3.out rfl rfl
                go_wp2
                go_meet
                exact ⟨rfl, rfl⟩
          case rest =>
            obtain ⟨rfl, rfl⟩ := hcut
            have HTI16 := Lib.hid (HTI.out.below HB16c.out)
            have hm0 : (0 : Int) ≤ (m : Int) := by omega
            go_wp2_with fail
            have HT11 := Lib.hid (HT.out.on HB11.out)
            obtain rfl := HMM.out
            have HC := Lib.hid (Sp.orow_at HMO.out (HB2.out.trans (HB11.out.mono HB2.out.size)))
            have HB1116 := Lib.hid (HB12r.out.trans (HB16c.out.mono HB12r.out.size))
            go_loopw [156] (fun v wr => ∃ (j : Nat) (vl : Value) (xs : List Sp.B), v = .int .i64 j ∧ j ≤ M.length ∧ Hid (Sp.TI wr w11.heap.size T vl mb xs ((M.take j).foldl Sp.step t)) ∧ Hid (Below w11.heap.size w11 wr)) (fun v _ => M.length - (intOf v).toNat)
            case atStart => exact ⟨0, vl, _, rfl, Nat.zero_le _, HTI16, HB1116⟩
            case round =>
              obtain ⟨j, vl, xs, rfl, hj, HI, HBW⟩ := hrel
              by_cases hlt : j < M.length
              · have hlti : (j : Int) < (M.length : Int) := by omega
                have hj0 : (0 : Int) ≤ (j : Int) := by omega
                have hj60 : (j : Int) < 60 := by omega
                obtain ⟨b, o, rfl, -, hbl, hat⟩ := HC.out (by intro e; rw [e] at hlt; simp at hlt)
                obtain ⟨⟨c0, c1, c2, c15⟩, ⟨vm, vl1, vt, hs, hr⟩, ⟨um, ul, ut, hs2, hr2⟩, hw1, hw2⟩ := hat j hlt
                obtain ⟨x, hx⟩ : ∃ x, x = M[j] := ⟨_, rfl⟩
                rw [← hx] at c0 c1 c2 c15 hs hr hs2 hr2 hw1 hw2
                have HR := Lib.hid hr
                obtain ⟨⟨a1, q1, rfl, -⟩, ⟨a2, q2, rfl, -⟩, ⟨a3, q3, rfl, -⟩⟩ := (Dt.rep_iff _ _ _ _ _ _).1 hr
                obtain ⟨⟨b1, r1, rfl, -⟩, ⟨b2, r2, rfl, -⟩, ⟨b3, r3, rfl, -⟩⟩ := (Dt.rep_iff _ _ _ _ _ _).1 hr2
                have hc : ∀ i v, w11.cell? ⟨b, i, none⟩ = some v → wr.cell? ⟨b, i, none⟩ = some v := fun i v h => (HBW.out.cell (p := ⟨b, i, none⟩) hbl).trans h
                have c0 := hc _ _ c0
                have c1 := hc _ _ c1
                have c2 := hc _ _ c2
                have c15 := hc _ _ c15
                have k0 : wr.cell? ⟨b, o + j * 16 + 3, none⟩ = some _ := hc _ _ hs.c0
                have k1 : wr.cell? ⟨b, o + j * 16 + 4, none⟩ = some _ := hc _ _ hs.c1
                have k2 : wr.cell? ⟨b, o + j * 16 + 5, none⟩ = some _ := hc _ _ hs.c2
                have k3 : wr.cell? ⟨b, o + j * 16 + 6, none⟩ = some _ := hc _ _ hs.c3
                have k4 : wr.cell? ⟨b, o + j * 16 + 7, none⟩ = some _ := hc _ _ hs.c4
                have k5 : wr.cell? ⟨b, o + j * 16 + 8, none⟩ = some _ := hc _ _ hs.c5
                have m0 : wr.cell? ⟨b, o + j * 16 + 9, none⟩ = some _ := hc _ _ hs2.c0
                have m1 : wr.cell? ⟨b, o + j * 16 + 10, none⟩ = some _ := hc _ _ hs2.c1
                have m2 : wr.cell? ⟨b, o + j * 16 + 11, none⟩ = some _ := hc _ _ hs2.c2
                have m3 : wr.cell? ⟨b, o + j * 16 + 12, none⟩ = some _ := hc _ _ hs2.c3
                have m4 : wr.cell? ⟨b, o + j * 16 + 13, none⟩ = some _ := hc _ _ hs2.c4
                have m5 : wr.cell? ⟨b, o + j * 16 + 14, none⟩ = some _ := hc _ _ hs2.c5
                obtain ⟨wB, hwB⟩ : ∃ wB, wr.alloc (.cells #[.int .i64 x.d, .int .i64 x.s, .int .i64 x.t, .int .i64 x.id.k, .int .i64 x.id.n, .string x.id.s, .slice a1 x.id.m.length q1, .slice a2 x.id.l.length q2, .slice a3 x.id.t.length q3, .int .i64 x.nd.k, .int .i64 x.nd.n, .string x.nd.s, .slice b1 x.nd.m.length r1, .slice b2 x.nd.l.length r2, .slice b3 x.nd.t.length r3, .int .i64 x.n] 30) = wB := ⟨_, rfl⟩
                have HNB := Lib.hid (Sp.below_new (Below.refl _ wr) hwB (Nat.le_refl _))
                have HBB := Lib.hid (HBW.out.trans (HNB.out.1.mono HBW.out.size))
                have HIB := Lib.hid (HI.out.below HNB.out.1)
                have nb : ∀ i v, #[.int .i64 x.d, .int .i64 x.s, .int .i64 x.t, .int .i64 x.id.k, .int .i64 x.id.n, .string x.id.s, .slice a1 x.id.m.length q1, .slice a2 x.id.l.length q2, .slice a3 x.id.t.length q3, .int .i64 x.nd.k, .int .i64 x.nd.n, .string x.nd.s, .slice b1 x.nd.m.length r1, .slice b2 x.nd.l.length r2, .slice b3 x.nd.t.length r3, .int .i64 x.n][i]? = some v → wB.cell? ⟨wr.heap.size, i, none⟩ = some v := fun i v h => by unfold World.cell?; rw [HNB.out.2.2.1]; exact h
                have l0 := nb 0 _ rfl
                have l1 := nb 1 _ rfl
                have l3 := nb 3 _ rfl
                have l4 := nb 4 _ rfl
                have l5 := nb 5 _ rfl
                have l6 := nb 6 _ rfl
                have l7 := nb 7 _ rfl
                have l8 := nb 8 _ rfl
                have l15 := nb 15 _ rfl
                have HX := Lib.hid hx
                have HST : Hid ((M.take (j + 1)).foldl Sp.step t = Sp.step ((M.take j).foldl Sp.step t) x) := by show _ = _; rw [List.take_succ_eq_append_getElem hlt, List.foldl_append, hx]; rfl
                have HRB := Lib.hid (HR.out.below HBB.out)
                have HW1 := Lib.hid hw1
                clear hs hr hs2 hr2 hat hc nb hx hw1 hw2 HR
                obtain ⟨tj, ht⟩ : ∃ tj, tj = (M.take j).foldl Sp.step t := ⟨_, rfl⟩
                rw [← ht] at HIB HST
                have hex := spExtend_any x.s x.id _ _ _ x.n wB HIB.out.tab HBB.out.size HW1.out HRB.out (HT11.out.on HBB.out)
                have hmk := spMark_any x.s wB HIB.out.tab
                clear ht HI
                by_cases h0 : x.d = 0
                · have h0' : (x.d == 0) = true := by simpa using h0
                  have HS : Hid ((M.take (j + 1)).foldl Sp.step t = (Sp.extend tj x.s x.id x.n).1) := by show _ = _; rw [HST.out]; unfold Sp.step; rw [if_pos h0]
                  obtain ⟨⟨t', e1, e2⟩, hre⟩ : ∃ r, r = Sp.extend tj x.s x.id x.n := ⟨_, rfl⟩
                  rw [← hre] at hex HS
                  clear h0 hmk hre
                  go_wp2_with (go_at_call 12; refine hex.mono ?_; clear hex; rintro e w5 ⟨rfl, hpo⟩; obtain ⟨vl5, xs5, hti5, hk5⟩ := HIB.out.ext HBB.out.size hpo; have HT5 := Lib.hid hti5; have HB5 := Lib.hid (Sp.below_mut HBB.out hk5 HIB.out.tab); clear hpo hti5 hk5)
                  go_roundw
                  case rel => exact ⟨j + 1, vl5, xs5, by simp, by omega, by rw [HS.out]; exact HT5, HB5⟩
                  case measure => simp [intOf]; omega
                · have h0' : (x.d == 0) = false := by simpa using h0
                  by_cases h1 : x.d = 1
                  · have h1' : (x.d == 1) = true := by simpa using h1
                    have HS : Hid ((M.take (j + 1)).foldl Sp.step t = (Sp.mark tj x.s).1) := by show _ = _; rw [HST.out]; unfold Sp.step; rw [if_neg h0, if_pos h1]
                    obtain ⟨⟨t', e1, e2⟩, hre⟩ : ∃ r, r = Sp.mark tj x.s := ⟨_, rfl⟩
                    rw [← hre] at hmk HS
                    clear h0 h1 hex hre
                    go_wp2_with (go_at_call 16; refine hmk.mono ?_; clear hmk; rintro e w5 ⟨rfl, ht5, hk5⟩; have HT5 := Lib.hid (HIB.out.mark ht5 hk5); have HB5 := Lib.hid (HBB.out.trans (hk5.to_below (fun k e => by have := HIB.out.tab.bm; omega) HBB.out.size)); clear ht5 hk5)
                    go_roundw
                    case rel => exact ⟨j + 1, vl, xs, by simp, by omega, by rw [HS.out]; exact HT5, HB5⟩
                    case measure => simp [intOf]; omega
                  · have h1' : (x.d == 1) = false := by simpa using h1
                    have HS : Hid ((M.take (j + 1)).foldl Sp.step t = tj) := by show _ = _; rw [HST.out]; unfold Sp.step; rw [if_neg h0, if_neg h1]
                    clear h0 h1 hex hmk
                    go_wp2
                    go_roundw
                    case rel => exact ⟨j + 1, vl, xs, by simp, by omega, by rw [HS.out]; exact HIB, HBB⟩
                    case measure => simp [intOf]; omega
              · obtain rfl : j = M.length := by omega
                have hge : (M.length : Int) ≤ (M.length : Int) := by omega
                have HBF := Lib.hid (HB11.out.trans (HBW.out.mono HB11.out.size))
                have hfin : Calls Tryd.prog 15 #[.pointer (some ⟨T, 0, none⟩), .int .i64 s0, .agg #[.int .i64 x.k, .int .i64 x.n, .string x.s, .slice a0 n0 q0, .slice a1 n1 q1, .slice a2 n2 q2], .int .i64 s1, .agg #[.int .i64 y.k, .int .i64 y.n, .string y.s, .slice a3 n3 q3, .slice a4 n4 q4, .slice a5 n5 q5]] wr fun e w' => e = .returned (.tuple #[.bool X3, .int .i64 0]) ∧ Below wr.heap.size wr w' := by
                  have := spSame_any s0 s1 x y _ _ _ _ _ _ wr HI.out.tab HWX.out (HRX.out.below HBF.out) HWY.out (HRY.out.below HBF.out) (HT.out.on HBF.out)
                  rw [HXM.out (by trivial) (M.take M.length)] at this
                  exact this
                have b0 := HB3.out _ HBF.out 0 _ rfl
                have b1 := HB3.out _ HBF.out 1 _ rfl
                have b2 := HB3.out _ HBF.out 2 _ rfl
                have d0 := HB18.out _ HBF.out 0 _ rfl
                have d1 := HB18.out _ HBF.out 1 _ rfl
                have d2 := HB18.out _ HBF.out 2 _ rfl
                have d3 := HB18.out _ HBF.out 3 _ rfl
                have d4 := HB18.out _ HBF.out 4 _ rfl
                have d5 := HB18.out _ HBF.out 5 _ rfl
                have d6 := HB18.out _ HBF.out 6 _ rfl
                have d7 := HB18.out _ HBF.out 7 _ rfl
                have d8 := HB18.out _ HBF.out 8 _ rfl
                have d9 := HB18.out _ HBF.out 9 _ rfl
                have d10 := HB18.out _ HBF.out 10 _ rfl
                have d11 := HB18.out _ HBF.out 11 _ rfl
                have d12 := HB18.out _ HBF.out 12 _ rfl
                have d13 := HB18.out _ HBF.out 13 _ rfl
                have d14 := HB18.out _ HBF.out 14 _ rfl
                have d15 := HB18.out _ HBF.out 15 _ rfl
                have d16 := HB18.out _ HBF.out 16 _ rfl
                have d17 := HB18.out _ HBF.out 17 _ rfl
                go_wp2_with (go_at_call 15; refine hfin.mono ?_; clear hfin; rintro e w20 ⟨rfl, hb20⟩; have HB20 := Lib.hid (HBF.out.trans (hb20.mono HBF.out.size)); clear hb20)
                go_ret
                exact ⟨rfl, HB2.out.trans (HB20.out.mono HB2.out.size)⟩
end Go.Proofs.YtjbjgceblanhpaaDoor
