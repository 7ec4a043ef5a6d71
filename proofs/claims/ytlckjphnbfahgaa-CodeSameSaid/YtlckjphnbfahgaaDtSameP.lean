/-
  datum.equal, datum.Same at whatever two data.
-/
import Derived.Test.YtlckjphnbfahgaaDtEq
namespace Go.Proofs.Ytlckjphnbfahgaa
open Go.RowKit
mutual
theorem Dt.equal_any : ∀ x : Dt.D, Dt.EqC x
  | .mk k n s m l t => equal_step (.mk k n s m l t) (Dt.equals_any l) (Dt.equals_any t)
theorem Dt.equals_any : ∀ (l : List Dt.D) (y : Dt.D), y ∈ l → Dt.EqC y
  | [], _, h => absurd h (by simp)
  | x :: r, y, h => (List.mem_cons.1 h).elim (fun e => by rw [e]; exact Dt.equal_any x) (fun h' => Dt.equals_any r y h')
end
set_option maxRecDepth 100000 in
set_option maxHeartbeats 4000000 in
theorem dSame_any {F G : Nat → Prop} (x z : Dt.D) (vm vl vt um ul ut : Value) (w : World) (hW : Dt.Wf x) (hW' : Dt.Wf z) (hR : Dt.Rep F w x vm vl vt) (hR' : Dt.Rep G w z um ul ut) :
    Calls Try.prog 27 #[.agg #[.int .i64 x.k, .int .i64 x.n, .string x.s, vm, vl, vt], .agg #[.int .i64 z.k, .int .i64 z.n, .string z.s, um, ul, ut]] w fun e w' => e = .returned (.bool (Dt.sameD x z)) ∧ Below w.heap.size w w' := by
  obtain ⟨w1, hw1⟩ : ∃ w1, w.alloc (.cells #[.int .i64 x.k, .int .i64 x.n, .string x.s, vm, vl, vt] 55) = w1 := ⟨_, rfl⟩
  obtain ⟨w2, hw2⟩ : ∃ w2, w1.alloc (.cells #[.int .i64 z.k, .int .i64 z.n, .string z.s, um, ul, ut] 55) = w2 := ⟨_, rfl⟩
  have hb1 : Below w.heap.size w w1 := by rw [← hw1]; exact (Below.refl _ _).alloc (Nat.le_refl _) _
  have hb2 : Below w1.heap.size w1 w2 := by rw [← hw2]; exact (Below.refl _ _).alloc (Nat.le_refl _) _
  have hz1 : w1.heap.size = w.heap.size + 1 := by rw [← hw1, World.size_alloc]
  have hz2 : w2.heap.size = w.heap.size + 2 := by rw [← hw2, World.size_alloc, hz1]
  have hsx : Dt.Six w2 w.heap.size 0 x vm vl vt := by
    have h := Dt.six_of' w x vm vl vt 55
    rw [hw1] at h
    exact h.keep (S := fun _ => False) ((Keep.refl _ _).below hb2) (by omega) id
  obtain ⟨Z, hZ⟩ : ∃ Z, w1.heap.size = Z := ⟨_, rfl⟩
  have hsz : Dt.Six w2 Z 0 z um ul ut := by
    have h := Dt.six_of' w1 z um ul ut 55
    rw [hw2, hZ] at h
    exact h
  have HB := Lib.hid (hb1.trans (hb2.mono (by omega)))
  have HR := Lib.hid ((hR.below hb1).below hb2)
  have HR' := Lib.hid ((hR'.below hb1).below hb2)
  have hc := fun u (hu : Below w2.heap.size w2 u) => dCheck_any x vm vl vt u hW (HR.out.below hu)
  have hc' := fun u (hu : Below w2.heap.size w2 u) => dCheck_any z um ul ut u hW' (HR'.out.below hu)
  have he := fun u (hu : Below w2.heap.size w2 u) => Dt.equal_any x F G z vm vl vt um ul ut u hW hW' (HR.out.below hu) (HR'.out.below hu)
  obtain ⟨x0, x1, x2, x3, x4, x5⟩ := hsx
  obtain ⟨z0, z1, z2, z3, z4, z5⟩ := hsz
  have HSX : Hid (Dt.Six w2 w.heap.size 0 x vm vl vt) := ⟨x0, x1, x2, x3, x4, x5⟩
  have HSZ : Hid (Dt.Six w2 Z 0 z um ul ut) := ⟨z0, z1, z2, z3, z4, z5⟩
  simp only [Nat.zero_add] at x0 x1 x2 x3 x4 x5 z0 z1 z2 z3 z4 z5
  obtain ⟨a1, n1, c1, a2, n2, c2, a3, n3, c3, rfl, rfl, rfl⟩ := hR.forms
  obtain ⟨d1, p1, q1, d2, p2, q2, d3, p3, q3, rfl, rfl, rfl⟩ := hR'.forms
  obtain ⟨S, hS⟩ : ∃ S, S = Dt.sameD x z := ⟨_, rfl⟩
  rw [← hS]
  unfold Dt.sameD at hS
  obtain ⟨C, hC⟩ : ∃ C, C = Dt.check x := ⟨_, rfl⟩
  obtain ⟨C', hC'⟩ : ∃ C', C' = Dt.check z := ⟨_, rfl⟩
  obtain ⟨E, hE⟩ : ∃ E, E = Dt.eqD x z := ⟨_, rfl⟩
  rw [← hC] at hc
  rw [← hC'] at hc'
  rw [← hE] at he
  rw [← hC, ← hC', ← hE] at hS
  have HC := Lib.hid hc
  have HC' := Lib.hid hc'
  have HE := Lib.hid he
  have HZ2 : Hid (w.heap.size < w2.heap.size ∧ Z < w2.heap.size) := ⟨by omega, by omega⟩
  clear hc hc' he hR hR' hW hW' hb1 hb2 hz1 hz2 hC hC' hE
  by_cases k1 : C = 0
  case neg =>
    have b1 : (C == 0) = false := by simpa using k1
    have HN : Hid (S = false) := by show _ = _; rw [hS]; simp [k1]
    clear k1 hS
    go_enter Try.func27, Try.ntmps27
    go_wp2_with (first | (go_at_call 52; with_reducible refine (HC.out _ (Below.refl _ _)).mono ?_; clear x0 x1 x2 x3 x4 x5 z0 z1 z2 z3 z4 z5; rintro e w3 ⟨rfl, hb3⟩; have HB3 := Lib.hid hb3; clear hb3 hw1 hw2; obtain ⟨x0, x1, x2, x3, x4, x5⟩ := HSX.out.keep (S := fun _ => False) ((Keep.refl _ _).below HB3.out) HZ2.out.1 id; obtain ⟨z0, z1, z2, z3, z4, z5⟩ := HSZ.out.keep (S := fun _ => False) ((Keep.refl _ _).below HB3.out) HZ2.out.2 id; simp only [Nat.zero_add] at x0 x1 x2 x3 x4 x5 z0 z1 z2 z3 z4 z5) | fail)
    go_ret
    exact ⟨by rw [HN.out]; rfl, HB.out.trans (HB3.out.mono HB.out.size)⟩
  have b1 : (C == 0) = true := by simpa using k1
  have K1 := Lib.hid k1
  clear k1
  by_cases k2 : C' = 0
  case neg =>
    have b2 : (C' == 0) = false := by simpa using k2
    have HN : Hid (S = false) := by show _ = _; rw [hS]; simp [k2]
    clear k2 hS
    go_enter Try.func27, Try.ntmps27
    go_wp2_with (first | (go_at_call 52; with_reducible refine (HC.out _ (Below.refl _ _)).mono ?_; clear x0 x1 x2 x3 x4 x5 z0 z1 z2 z3 z4 z5; rintro e w3 ⟨rfl, hb3⟩; have HB3 := Lib.hid hb3; clear hb3 hw1 hw2; obtain ⟨x0, x1, x2, x3, x4, x5⟩ := HSX.out.keep (S := fun _ => False) ((Keep.refl _ _).below HB3.out) HZ2.out.1 id; obtain ⟨z0, z1, z2, z3, z4, z5⟩ := HSZ.out.keep (S := fun _ => False) ((Keep.refl _ _).below HB3.out) HZ2.out.2 id; simp only [Nat.zero_add] at x0 x1 x2 x3 x4 x5 z0 z1 z2 z3 z4 z5) | (go_at_call 52; with_reducible refine (HC'.out _ HB3.out).mono ?_; clear x0 x1 x2 x3 x4 x5 z0 z1 z2 z3 z4 z5; rintro e w4 ⟨rfl, hb4⟩; have HB4 := Lib.hid (HB3.out.trans (hb4.mono HB3.out.size)); clear hb4; obtain ⟨x0, x1, x2, x3, x4, x5⟩ := HSX.out.keep (S := fun _ => False) ((Keep.refl _ _).below HB4.out) HZ2.out.1 id; obtain ⟨z0, z1, z2, z3, z4, z5⟩ := HSZ.out.keep (S := fun _ => False) ((Keep.refl _ _).below HB4.out) HZ2.out.2 id; simp only [Nat.zero_add] at x0 x1 x2 x3 x4 x5 z0 z1 z2 z3 z4 z5) | fail)
    go_ret
    exact ⟨by rw [HN.out]; rfl, HB.out.trans (HB4.out.mono HB.out.size)⟩
  have b2 : (C' == 0) = true := by simpa using k2
  have HN : Hid (S = E) := by show _ = _; rw [hS]; simp [K1.out, k2]
  clear k2 hS
  go_enter Try.func27, Try.ntmps27
  go_wp2_with (first | (go_at_call 52; with_reducible refine (HC.out _ (Below.refl _ _)).mono ?_; clear x0 x1 x2 x3 x4 x5 z0 z1 z2 z3 z4 z5; rintro e w3 ⟨rfl, hb3⟩; have HB3 := Lib.hid hb3; clear hb3 hw1 hw2; obtain ⟨x0, x1, x2, x3, x4, x5⟩ := HSX.out.keep (S := fun _ => False) ((Keep.refl _ _).below HB3.out) HZ2.out.1 id; obtain ⟨z0, z1, z2, z3, z4, z5⟩ := HSZ.out.keep (S := fun _ => False) ((Keep.refl _ _).below HB3.out) HZ2.out.2 id; simp only [Nat.zero_add] at x0 x1 x2 x3 x4 x5 z0 z1 z2 z3 z4 z5) | (go_at_call 52; with_reducible refine (HC'.out _ HB3.out).mono ?_; clear x0 x1 x2 x3 x4 x5 z0 z1 z2 z3 z4 z5; rintro e w4 ⟨rfl, hb4⟩; have HB4 := Lib.hid (HB3.out.trans (hb4.mono HB3.out.size)); clear hb4; obtain ⟨x0, x1, x2, x3, x4, x5⟩ := HSX.out.keep (S := fun _ => False) ((Keep.refl _ _).below HB4.out) HZ2.out.1 id; obtain ⟨z0, z1, z2, z3, z4, z5⟩ := HSZ.out.keep (S := fun _ => False) ((Keep.refl _ _).below HB4.out) HZ2.out.2 id; simp only [Nat.zero_add] at x0 x1 x2 x3 x4 x5 z0 z1 z2 z3 z4 z5) | (go_at_call 55; with_reducible refine (HE.out _ HB4.out).mono ?_; clear x0 x1 x2 x3 x4 x5 z0 z1 z2 z3 z4 z5; rintro e w5 ⟨rfl, hb5⟩; have HB5 := Lib.hid (HB4.out.trans (hb5.mono HB4.out.size)); clear hb5) | fail)
  go_ret
  exact ⟨by rw [HN.out]; rfl, HB.out.trans (HB5.out.mono HB.out.size)⟩
end Go.Proofs.Ytlckjphnbfahgaa
