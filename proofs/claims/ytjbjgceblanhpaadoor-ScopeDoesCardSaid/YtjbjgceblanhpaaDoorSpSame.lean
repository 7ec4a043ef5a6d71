/-
  scope.Table: Find of a table that no call made; Same.
-/
import Derived.Test.YtjbjgceblanhpaaDoorSpFind
namespace Go.Proofs.YtjbjgceblanhpaaDoor
open Go.RowKit Go.Shelf
attribute [local go_sem] Oper.semAt_some
namespace Sp
open Dt
/-- what Find begins with, whatever its table -/
structure FindBox (w w1 w2 w3 w4 : World) (p : Value) : Prop where
  p0 : w4.cell? ⟨w.heap.size, 0, none⟩ = some p
  r : Held w4 w2.heap.size w3.heap.size 0 0 ⟨#[]⟩ 0
  f : w4.frozen? ⟨w2.heap.size, 0, none⟩ = false ∧ w4.frozen? ⟨w2.heap.size, 1, none⟩ = false ∧ w4.frozen? ⟨w2.heap.size, 2, none⟩ = false ∧ w4.frozen? ⟨w3.heap.size, 0, none⟩ = false
  bel : Below w.heap.size w w4
  s2 : w2.heap.size = w.heap.size + 2
  s3 : w3.heap.size = w.heap.size + 3
  s4 : w4.heap.size = w.heap.size + 4
theorem FindBox.mk' {w w1 w2 w3 w4 : World} {x : D} {vm vL vt p : Value}
    (hw1 : w.alloc (.cells #[p] 32) = w1) (hw2 : w1.alloc (.cells #[.int .i64 x.k, .int .i64 x.n, .string x.s, vm, vL, vt] 26) = w2) (hw3 : w2.alloc (.cells #[.int .i64 0, .int .i64 0, .string ⟨#[]⟩] 35) = w3) (hw4 : w3.alloc (.cells #[.int .i64 0] 36) = w4) : FindBox w w1 w2 w3 w4 p := by
  have b1 : Below w.heap.size w w1 := by rw [← hw1]; exact (Below.refl _ _).alloc (Nat.le_refl _) _
  have b2 : Below w1.heap.size w1 w2 := by rw [← hw2]; exact (Below.refl _ _).alloc (Nat.le_refl _) _
  have b3 : Below w2.heap.size w2 w3 := by rw [← hw3]; exact (Below.refl _ _).alloc (Nat.le_refl _) _
  have b4 : Below w3.heap.size w3 w4 := by rw [← hw4]; exact (Below.refl _ _).alloc (Nat.le_refl _) _
  have s1 : w1.heap.size = w.heap.size + 1 := by rw [← hw1]; simp
  have s2 : w2.heap.size = w.heap.size + 2 := by rw [← hw2, World.size_alloc, s1]
  have s3 : w3.heap.size = w.heap.size + 3 := by rw [← hw3, World.size_alloc, s2]
  have s4 : w4.heap.size = w.heap.size + 4 := by rw [← hw4, World.size_alloc, s3]
  have b34 := b3.trans (b4.mono b3.size)
  have b24 := b2.trans (b34.mono b2.size)
  have b14 := b1.trans (b24.mono b1.size)
  have c1 := one_new w p 32
  rw [hw1] at c1
  have a3 : w3.cell? ⟨w2.heap.size, 0, none⟩ = some (.int .i64 0) ∧ w3.cell? ⟨w2.heap.size, 1, none⟩ = some (.int .i64 0) ∧ w3.cell? ⟨w2.heap.size, 2, none⟩ = some (.string ⟨#[]⟩) := by
    rw [← hw3]
    unfold World.cell?
    rw [World.alloc_heap_new]
    exact ⟨rfl, rfl, rfl⟩
  have f3 : ∀ j, w3.frozen? ⟨w2.heap.size, j, none⟩ = false := fun j => by rw [← hw3]; exact frz_new w2 _ _ j
  have a4 := one_new w3 (.int .i64 0) 36
  rw [hw4] at a4
  have f4 : ∀ j, w4.frozen? ⟨w3.heap.size, j, none⟩ = false := fun j => by rw [← hw4]; exact frz_new w3 _ _ j
  have k4 : ∀ j, w4.cell? ⟨w2.heap.size, j, none⟩ = w3.cell? ⟨w2.heap.size, j, none⟩ := fun j => b4.cell (p := ⟨w2.heap.size, j, none⟩) (by show w2.heap.size < _; omega)
  have g4 : ∀ j, w4.frozen? ⟨w2.heap.size, j, none⟩ = false := fun j => (b4.frozen (p := ⟨w2.heap.size, j, none⟩) (by show w2.heap.size < _; omega)).trans (f3 j)
  exact ⟨(b24.cell (p := ⟨w.heap.size, 0, none⟩) (by show w.heap.size < _; omega)).trans c1, ⟨(k4 0).trans a3.1, (k4 1).trans a3.2.1, (k4 2).trans a3.2.2, a4⟩, ⟨g4 0, g4 1, g4 2, f4 0⟩, b14, s2, s3, s4⟩
end Sp
set_option maxRecDepth 100000 in
set_option maxHeartbeats 8000000 in
theorem spFind_no (p : Option Addr) (sc : Int) (x : Dt.D) (vm vL vt : Value) (w : World) (h : Sp.NoTab w (.pointer p)) :
    Calls Tryd.prog 11 #[.pointer p, .int .i64 sc, .agg #[.int .i64 x.k, .int .i64 x.n, .string x.s, vm, vL, vt]] w fun e w' => e = .returned (.tuple #[.agg #[.int .i64 0, .int .i64 0, .string ⟨#[]⟩], .int .i64 2]) ∧ Below w.heap.size w w' := by
  obtain ⟨w1, hw1⟩ : ∃ w1, w.alloc (.cells #[.pointer p] 32) = w1 := ⟨_, rfl⟩
  obtain ⟨w2, hw2⟩ : ∃ w2, w1.alloc (.cells #[.int .i64 x.k, .int .i64 x.n, .string x.s, vm, vL, vt] 26) = w2 := ⟨_, rfl⟩
  obtain ⟨w3, hw3⟩ : ∃ w3, w2.alloc (.cells #[.int .i64 0, .int .i64 0, .string ⟨#[]⟩] 35) = w3 := ⟨_, rfl⟩
  obtain ⟨w4, hw4⟩ : ∃ w4, w3.alloc (.cells #[.int .i64 0] 36) = w4 := ⟨_, rfl⟩
  have HS := Lib.hid (Sp.FindBox.mk' hw1 hw2 hw3 hw4)
  have hmay := spMay_no (.pointer p) sc w4 (h.below HS.out.bel)
  have p0 := HS.out.p0
  have hn67 : ¬ w2.heap.size = w3.heap.size := by have := HS.out.s2; have := HS.out.s3; omega
  have hn76 : ¬ w3.heap.size = w2.heap.size := by have := HS.out.s2; have := HS.out.s3; omega
  obtain ⟨s0, s1, s2, s3⟩ := HS.out.r
  obtain ⟨f0, f1, f2, f3⟩ := HS.out.f
  clear h
  refine (callsIn_wide (n := 9)).1 ?_
  refine callsIn_of_wp_marks Tryd.func11 rfl trivial ?_ rfl
  simp only [Tryd.ntmps11, List.size_toArray, List.length_cons, List.length_nil, Nat.reduceAdd, Nat.reduceSub, Array.replicate_succ, Array.replicate_zero, List.push_toArray, List.append_toArray, List.nil_append, List.cons_append]
  gi_wp2_with (refine ⟨trivial, ?_⟩; gi_at_call 26; refine (callsIn_wide.2 hmay).mono ?_; clear hmay; rintro e w5 ⟨rfl, rfl⟩)
  have hs := HS.out.bel.size
  have := HS.out.s2
  have := HS.out.s3
  have := HS.out.s4
  refine Sp.find_ret (rs := []) (b := w4.heap.size) rfl rfl ⟨List.nodup_nil, fun r h => by cases h⟩ (by omega) (by omega) (Sp.done4_held ⟨s0, s1, s2, s3⟩ hn67) (fun w' hk => ⟨rfl, ?_⟩)
  have h4 := Sp.done4_keep w4 w2.heap.size w3.heap.size 0 0 ⟨#[]⟩ 2
  exact (HS.out.bel.trans (h4.to_below (fun k e => by omega) (by omega))).trans (hk.to_below (fun k e => by cases e) (Nat.le_trans (by omega) h4.size))
namespace Sp
open Dt
instance : DecidableEq Seen := fun a b => decidable_of_iff (a.scope = b.scope ∧ a.what = b.what ∧ a.name = b.name) ⟨fun h => by cases a; cases b; obtain ⟨h1, h2, h3⟩ := h; simp only at h1 h2 h3; subst h1 h2 h3; rfl, fun h => by rw [h]; exact ⟨rfl, rfl, rfl⟩⟩
/-- Same -/
def same (t : Tbl) (a : Int) (x : D) (b : Int) (y : D) : Bool × Int :=
  if (find t a x).2 ≠ 0 then (false, (find t a x).2)
  else if (find t b y).2 ≠ 0 then (false, (find t b y).2)
  else (decide ((find t a x).1 = (find t b y).1), 0)
theorem Seen.beq (u v : Seen) : ((u.scope : Int) == (v.scope : Int) && (u.what == v.what && u.name.toList == v.name.toList)) = decide (u = v) := by
  cases u; cases v
  rw [Bool.eq_iff_iff]
  simp only [Bool.and_eq_true, beq_iff_eq, decide_eq_true_eq, Seen.mk.injEq]
  constructor
  · rintro ⟨h1, h2, h3⟩
    exact ⟨by omega, h2, toList_inj h3⟩
  · rintro ⟨rfl, rfl, rfl⟩
    exact ⟨rfl, rfl, rfl⟩
end Sp
set_option maxRecDepth 100000 in
set_option maxHeartbeats 8000000 in
theorem spSame_any {F G : Nat → Prop} {base T mb : Nat} {vl : Value} {xs : List Sp.B} {t : Sp.Tbl} (a b : Int) (x y : Dt.D) (vm vL vt um uL ut : Value) (w : World) (h : Sp.Tab w base T vl mb xs t) (hW : Dt.Wf x) (hR : Dt.Rep F w x vm vL vt) (hW2 : Dt.Wf y) (hR2 : Dt.Rep G w y um uL ut) (hT : Sp.T10 w) :
    Calls Tryd.prog 15 #[.pointer (some ⟨T, 0, none⟩), .int .i64 a, .agg #[.int .i64 x.k, .int .i64 x.n, .string x.s, vm, vL, vt], .int .i64 b, .agg #[.int .i64 y.k, .int .i64 y.n, .string y.s, um, uL, ut]] w fun e w' => e = .returned (.tuple #[.bool (Sp.same t a x b y).1, .int .i64 (Sp.same t a x b y).2]) ∧ Below w.heap.size w w' := by
  obtain ⟨a1, n1, q1, a2, n2, q2, a3, n3, q3, rfl, rfl, rfl⟩ := hR.forms
  obtain ⟨c1, o1, r1, c2, o2, r2, c3, o3, r3, rfl, rfl, rfl⟩ := hR2.forms
  obtain ⟨w2, hw2, hb2, hs2, hx2, hy2⟩ := Dt.boxes2 w x y (.slice a1 n1 q1) (.slice a2 n2 q2) (.slice a3 n3 q3) (.slice c1 o1 r1) (.slice c2 o2 r2) (.slice c3 o3 r3)
  obtain ⟨R, hRR⟩ : ∃ R, R = Sp.same t a x b y := ⟨_, rfl⟩
  rw [← hRR]
  obtain ⟨⟨⟨us, uw, un⟩, e1⟩, hu⟩ : ∃ r, r = Sp.find t a x := ⟨_, rfl⟩
  obtain ⟨⟨⟨vs, vw, vn⟩, e2⟩, hv⟩ : ∃ r, r = Sp.find t b y := ⟨_, rfl⟩
  have HR : Hid (R = if e1 ≠ 0 then (false, e1) else if e2 ≠ 0 then (false, e2) else (decide (Sp.Seen.mk us uw un = Sp.Seen.mk vs vw vn), 0)) := by show _ = _; rw [hRR]; unfold Sp.same; rw [← hu, ← hv]
  have HF1 : Hid (∀ W, Below w.heap.size w W → Calls Tryd.prog 11 #[.pointer (some ⟨T, 0, none⟩), .int .i64 a, .agg #[.int .i64 x.k, .int .i64 x.n, .string x.s, .slice a1 n1 q1, .slice a2 n2 q2, .slice a3 n3 q3]] W fun e w' => e = .returned (.tuple #[.agg #[.int .i64 (us : Int), .int .i64 uw, .string un], .int .i64 e1]) ∧ Below W.heap.size W w') := fun W hb => by
    have := spFind_any a x _ _ _ W (h.below hb) hW (hR.below hb) (hT.on hb)
    rw [← hu] at this
    exact this
  have HF2 : Hid (∀ W, Below w.heap.size w W → Calls Tryd.prog 11 #[.pointer (some ⟨T, 0, none⟩), .int .i64 b, .agg #[.int .i64 y.k, .int .i64 y.n, .string y.s, .slice c1 o1 r1, .slice c2 o2 r2, .slice c3 o3 r3]] W fun e w' => e = .returned (.tuple #[.agg #[.int .i64 (vs : Int), .int .i64 vw, .string vn], .int .i64 e2]) ∧ Below W.heap.size W w') := fun W hb => by
    have := spFind_any b y _ _ _ W (h.below hb) hW2 (hR2.below hb) (hT.on hb)
    rw [← hv] at this
    exact this
  have hf1 := HF1.out w2 hb2
  have HY2 := Lib.hid hy2
  have HB2 := Lib.hid hb2
  obtain ⟨b0, b1, b2, b3, b4, b5⟩ := hx2
  obtain ⟨d0, d1, d2, d3, d4, d5⟩ := id hy2
  clear h hW hR hW2 hR2 hT hRR hu hv hy2 hb2 HF1
  by_cases h1 : e1 = 0
  case neg =>
    have h1' : (e1 != 0) = true := by simpa using h1
    have HV : Hid (R = (false, e1)) := by show _ = _; rw [HR.out, if_pos h1]
    clear h1
    go_enter Tryd.func15, Tryd.ntmps15
    go_wp2_with (go_at_call 11; refine hf1.mono ?_; clear hf1; rintro e w3 ⟨rfl, hb3⟩; have HB3 := Lib.hid (HB2.out.trans (hb3.mono HB2.out.size)); clear hb3)
    refine bodyPost_ret (v := .tuple #[.bool false, .int .i64 e1]) (by simp [results, Tryd.results15, go_sem]) rfl ?_
    rw [HV.out]
    exact ⟨rfl, HB3.out.trans (((Below.refl _ w3).alloc (Nat.le_refl _) _).mono HB3.out.size)⟩
  subst h1
  by_cases h2 : e2 = 0
  case neg =>
    have h2' : (e2 == 0) = false := by simpa using h2
    have HV : Hid (R = (false, e2)) := by show _ = _; rw [HR.out, if_neg (by simp), if_pos h2]
    clear h2
    go_enter Tryd.func15, Tryd.ntmps15
    go_wp2_with (go_at_call 11; refine hf1.mono ?_; clear hf1; rintro e w3 ⟨rfl, hb3⟩; obtain ⟨w4, hw4⟩ : ∃ w4, w3.alloc (.cells #[.int .i64 (us : Int), .int .i64 uw, .string un] 35) = w4 := ⟨_, rfl⟩; have HB4 := Lib.hid (Sp.below_new hb3 hw4 hb3.size); obtain ⟨d0, d1, d2, d3, d4, d5⟩ := HY2.out.below HB4.out.1; have hf2 := HF2.out w4 (HB2.out.trans (HB4.out.1.mono HB2.out.size)); clear hb3; refine Hid.out ?_)
    refine Lib.hid ?_
    go_wp2_with (go_at_call 11; refine hf2.mono ?_; clear hf2; rintro e w5 ⟨rfl, hb5⟩; have HB5 := Lib.hid (HB4.out.1.trans (hb5.mono HB4.out.1.size)); clear hb5)
    refine bodyPost_ret (v := .tuple #[.bool false, .int .i64 e2]) (by simp [results, Tryd.results15, go_sem]) rfl ?_
    rw [HV.out]
    have hbb := HB2.out.trans (HB5.out.mono HB2.out.size)
    exact ⟨rfl, hbb.trans (((Below.refl _ w5).alloc (Nat.le_refl _) _).mono hbb.size)⟩
  subst h2
  have HV : Hid (R = (decide (Sp.Seen.mk us uw un = Sp.Seen.mk vs vw vn), 0)) := by show _ = _; rw [HR.out, if_neg (by simp), if_neg (by simp)]
  by_cases h1 : us = vs
  case neg =>
    have h1' : ¬ ((us : Int) = (vs : Int)) := by omega
    have HD : Hid (decide (Sp.Seen.mk us uw un = Sp.Seen.mk vs vw vn) = false) := decide_eq_false (fun e => h1 (by cases e; rfl))
    go_enter Tryd.func15, Tryd.ntmps15
    go_wp2_with (go_at_call 11; refine hf1.mono ?_; clear hf1; rintro e w3 ⟨rfl, hb3⟩; obtain ⟨w4, hw4⟩ : ∃ w4, w3.alloc (.cells #[.int .i64 (us : Int), .int .i64 uw, .string un] 35) = w4 := ⟨_, rfl⟩; have HB4 := Lib.hid (Sp.below_new hb3 hw4 hb3.size); obtain ⟨d0, d1, d2, d3, d4, d5⟩ := HY2.out.below HB4.out.1; have hf2 := HF2.out w4 (HB2.out.trans (HB4.out.1.mono HB2.out.size)); clear hb3; refine Hid.out ?_)
    refine Lib.hid ?_
    have k0 : w4.cell? ⟨w3.heap.size, 0, none⟩ = some (.int .i64 (us : Int)) := by unfold World.cell?; rw [HB4.out.2.2.1]; rfl
    have k1 : w4.cell? ⟨w3.heap.size, 1, none⟩ = some (.int .i64 uw) := by unfold World.cell?; rw [HB4.out.2.2.1]; rfl
    have k2 : w4.cell? ⟨w3.heap.size, 2, none⟩ = some (.string un) := by unfold World.cell?; rw [HB4.out.2.2.1]; rfl
    have HK := Lib.hid (And.intro k0 (And.intro k1 k2))
    clear k0 k1 k2
    go_wp2_with (go_at_call 11; refine hf2.mono ?_; clear hf2; rintro e w5 ⟨rfl, hb5⟩; have HB5 := Lib.hid (HB4.out.1.trans (hb5.mono HB4.out.1.size)); have k0 := (hb5.cell (p := ⟨w3.heap.size, 0, none⟩) (block_lt_of_cell HK.out.1)).trans HK.out.1; have k1 := (hb5.cell (p := ⟨w3.heap.size, 1, none⟩) (block_lt_of_cell HK.out.2.1)).trans HK.out.2.1; have k2 := (hb5.cell (p := ⟨w3.heap.size, 2, none⟩) (block_lt_of_cell HK.out.2.2)).trans HK.out.2.2; obtain ⟨w6, hw6⟩ : ∃ w6, w5.alloc (.cells #[.int .i64 (vs : Int), .int .i64 vw, .string vn] 35) = w6 := ⟨_, rfl⟩; have HB6 := Lib.hid (Sp.below_new (Below.refl _ w5) hw6 (Nat.le_refl _)); clear hb5; refine Hid.out ?_)
    refine Lib.hid ?_
    have m0 := (HB6.out.1.cell (p := ⟨w3.heap.size, 0, none⟩) (block_lt_of_cell k0)).trans k0
    have m1 := (HB6.out.1.cell (p := ⟨w3.heap.size, 1, none⟩) (block_lt_of_cell k1)).trans k1
    have m2 := (HB6.out.1.cell (p := ⟨w3.heap.size, 2, none⟩) (block_lt_of_cell k2)).trans k2
    have l0 : w6.cell? ⟨w5.heap.size, 0, none⟩ = some (.int .i64 (vs : Int)) := by unfold World.cell?; rw [HB6.out.2.2.1]; rfl
    have l1 : w6.cell? ⟨w5.heap.size, 1, none⟩ = some (.int .i64 vw) := by unfold World.cell?; rw [HB6.out.2.2.1]; rfl
    have l2 : w6.cell? ⟨w5.heap.size, 2, none⟩ = some (.string vn) := by unfold World.cell?; rw [HB6.out.2.2.1]; rfl
    clear k0 k1 k2
    have HBB := Lib.hid ((HB2.out.trans (HB5.out.mono HB2.out.size)).trans (HB6.out.1.mono (HB2.out.trans (HB5.out.mono HB2.out.size)).size))
    go_wp2
    refine bodyPost_ret (v := .tuple #[.bool false, .int .i64 0]) (by simp [results, Tryd.results15, go_sem]) rfl ?_
    rw [HV.out, HD.out]
    exact ⟨rfl, HBB.out⟩
  subst h1
  by_cases h2 : uw = vw
  case neg =>
    have HD : Hid (decide (Sp.Seen.mk us uw un = Sp.Seen.mk us vw vn) = false) := decide_eq_false (fun e => h2 (by cases e; rfl))
    go_enter Tryd.func15, Tryd.ntmps15
    go_wp2_with (go_at_call 11; refine hf1.mono ?_; clear hf1; rintro e w3 ⟨rfl, hb3⟩; obtain ⟨w4, hw4⟩ : ∃ w4, w3.alloc (.cells #[.int .i64 (us : Int), .int .i64 uw, .string un] 35) = w4 := ⟨_, rfl⟩; have HB4 := Lib.hid (Sp.below_new hb3 hw4 hb3.size); obtain ⟨d0, d1, d2, d3, d4, d5⟩ := HY2.out.below HB4.out.1; have hf2 := HF2.out w4 (HB2.out.trans (HB4.out.1.mono HB2.out.size)); clear hb3; refine Hid.out ?_)
    refine Lib.hid ?_
    have k0 : w4.cell? ⟨w3.heap.size, 0, none⟩ = some (.int .i64 (us : Int)) := by unfold World.cell?; rw [HB4.out.2.2.1]; rfl
    have k1 : w4.cell? ⟨w3.heap.size, 1, none⟩ = some (.int .i64 uw) := by unfold World.cell?; rw [HB4.out.2.2.1]; rfl
    have k2 : w4.cell? ⟨w3.heap.size, 2, none⟩ = some (.string un) := by unfold World.cell?; rw [HB4.out.2.2.1]; rfl
    have HK := Lib.hid (And.intro k0 (And.intro k1 k2))
    clear k0 k1 k2
    go_wp2_with (go_at_call 11; refine hf2.mono ?_; clear hf2; rintro e w5 ⟨rfl, hb5⟩; have HB5 := Lib.hid (HB4.out.1.trans (hb5.mono HB4.out.1.size)); have k0 := (hb5.cell (p := ⟨w3.heap.size, 0, none⟩) (block_lt_of_cell HK.out.1)).trans HK.out.1; have k1 := (hb5.cell (p := ⟨w3.heap.size, 1, none⟩) (block_lt_of_cell HK.out.2.1)).trans HK.out.2.1; have k2 := (hb5.cell (p := ⟨w3.heap.size, 2, none⟩) (block_lt_of_cell HK.out.2.2)).trans HK.out.2.2; obtain ⟨w6, hw6⟩ : ∃ w6, w5.alloc (.cells #[.int .i64 (us : Int), .int .i64 vw, .string vn] 35) = w6 := ⟨_, rfl⟩; have HB6 := Lib.hid (Sp.below_new (Below.refl _ w5) hw6 (Nat.le_refl _)); clear hb5; refine Hid.out ?_)
    refine Lib.hid ?_
    have m0 := (HB6.out.1.cell (p := ⟨w3.heap.size, 0, none⟩) (block_lt_of_cell k0)).trans k0
    have m1 := (HB6.out.1.cell (p := ⟨w3.heap.size, 1, none⟩) (block_lt_of_cell k1)).trans k1
    have m2 := (HB6.out.1.cell (p := ⟨w3.heap.size, 2, none⟩) (block_lt_of_cell k2)).trans k2
    have l0 : w6.cell? ⟨w5.heap.size, 0, none⟩ = some (.int .i64 (us : Int)) := by unfold World.cell?; rw [HB6.out.2.2.1]; rfl
    have l1 : w6.cell? ⟨w5.heap.size, 1, none⟩ = some (.int .i64 vw) := by unfold World.cell?; rw [HB6.out.2.2.1]; rfl
    have l2 : w6.cell? ⟨w5.heap.size, 2, none⟩ = some (.string vn) := by unfold World.cell?; rw [HB6.out.2.2.1]; rfl
    clear k0 k1 k2
    have HBB := Lib.hid ((HB2.out.trans (HB5.out.mono HB2.out.size)).trans (HB6.out.1.mono (HB2.out.trans (HB5.out.mono HB2.out.size)).size))
    go_wp2
    refine bodyPost_ret (v := .tuple #[.bool false, .int .i64 0]) (by simp [results, Tryd.results15, go_sem]) rfl ?_
    rw [HV.out, HD.out]
    exact ⟨rfl, HBB.out⟩
  subst h2
  by_cases h3 : un = vn
  case neg =>
    have h3' : ¬ (un.toList = vn.toList) := fun e => h3 (Sp.toList_inj e)
    have HD : Hid (decide (Sp.Seen.mk us uw un = Sp.Seen.mk us uw vn) = false) := decide_eq_false (fun e => h3 (by cases e; rfl))
    go_enter Tryd.func15, Tryd.ntmps15
    go_wp2_with (go_at_call 11; refine hf1.mono ?_; clear hf1; rintro e w3 ⟨rfl, hb3⟩; obtain ⟨w4, hw4⟩ : ∃ w4, w3.alloc (.cells #[.int .i64 (us : Int), .int .i64 uw, .string un] 35) = w4 := ⟨_, rfl⟩; have HB4 := Lib.hid (Sp.below_new hb3 hw4 hb3.size); obtain ⟨d0, d1, d2, d3, d4, d5⟩ := HY2.out.below HB4.out.1; have hf2 := HF2.out w4 (HB2.out.trans (HB4.out.1.mono HB2.out.size)); clear hb3; refine Hid.out ?_)
    refine Lib.hid ?_
    have k0 : w4.cell? ⟨w3.heap.size, 0, none⟩ = some (.int .i64 (us : Int)) := by unfold World.cell?; rw [HB4.out.2.2.1]; rfl
    have k1 : w4.cell? ⟨w3.heap.size, 1, none⟩ = some (.int .i64 uw) := by unfold World.cell?; rw [HB4.out.2.2.1]; rfl
    have k2 : w4.cell? ⟨w3.heap.size, 2, none⟩ = some (.string un) := by unfold World.cell?; rw [HB4.out.2.2.1]; rfl
    have HK := Lib.hid (And.intro k0 (And.intro k1 k2))
    clear k0 k1 k2
    go_wp2_with (go_at_call 11; refine hf2.mono ?_; clear hf2; rintro e w5 ⟨rfl, hb5⟩; have HB5 := Lib.hid (HB4.out.1.trans (hb5.mono HB4.out.1.size)); have k0 := (hb5.cell (p := ⟨w3.heap.size, 0, none⟩) (block_lt_of_cell HK.out.1)).trans HK.out.1; have k1 := (hb5.cell (p := ⟨w3.heap.size, 1, none⟩) (block_lt_of_cell HK.out.2.1)).trans HK.out.2.1; have k2 := (hb5.cell (p := ⟨w3.heap.size, 2, none⟩) (block_lt_of_cell HK.out.2.2)).trans HK.out.2.2; obtain ⟨w6, hw6⟩ : ∃ w6, w5.alloc (.cells #[.int .i64 (us : Int), .int .i64 uw, .string vn] 35) = w6 := ⟨_, rfl⟩; have HB6 := Lib.hid (Sp.below_new (Below.refl _ w5) hw6 (Nat.le_refl _)); clear hb5; refine Hid.out ?_)
    refine Lib.hid ?_
    have m0 := (HB6.out.1.cell (p := ⟨w3.heap.size, 0, none⟩) (block_lt_of_cell k0)).trans k0
    have m1 := (HB6.out.1.cell (p := ⟨w3.heap.size, 1, none⟩) (block_lt_of_cell k1)).trans k1
    have m2 := (HB6.out.1.cell (p := ⟨w3.heap.size, 2, none⟩) (block_lt_of_cell k2)).trans k2
    have l0 : w6.cell? ⟨w5.heap.size, 0, none⟩ = some (.int .i64 (us : Int)) := by unfold World.cell?; rw [HB6.out.2.2.1]; rfl
    have l1 : w6.cell? ⟨w5.heap.size, 1, none⟩ = some (.int .i64 uw) := by unfold World.cell?; rw [HB6.out.2.2.1]; rfl
    have l2 : w6.cell? ⟨w5.heap.size, 2, none⟩ = some (.string vn) := by unfold World.cell?; rw [HB6.out.2.2.1]; rfl
    clear k0 k1 k2
    have HBB := Lib.hid ((HB2.out.trans (HB5.out.mono HB2.out.size)).trans (HB6.out.1.mono (HB2.out.trans (HB5.out.mono HB2.out.size)).size))
    go_wp2
    refine bodyPost_ret (v := .tuple #[.bool false, .int .i64 0]) (by simp [results, Tryd.results15, go_sem]) rfl ?_
    rw [HV.out, HD.out]
    exact ⟨rfl, HBB.out⟩
  subst h3
  have HD : Hid (decide (Sp.Seen.mk us uw un = Sp.Seen.mk us uw un) = true) := decide_eq_true rfl
  go_enter Tryd.func15, Tryd.ntmps15
  go_wp2_with (go_at_call 11; refine hf1.mono ?_; clear hf1; rintro e w3 ⟨rfl, hb3⟩; obtain ⟨w4, hw4⟩ : ∃ w4, w3.alloc (.cells #[.int .i64 (us : Int), .int .i64 uw, .string un] 35) = w4 := ⟨_, rfl⟩; have HB4 := Lib.hid (Sp.below_new hb3 hw4 hb3.size); obtain ⟨d0, d1, d2, d3, d4, d5⟩ := HY2.out.below HB4.out.1; have hf2 := HF2.out w4 (HB2.out.trans (HB4.out.1.mono HB2.out.size)); clear hb3; refine Hid.out ?_)
  refine Lib.hid ?_
  have k0 : w4.cell? ⟨w3.heap.size, 0, none⟩ = some (.int .i64 (us : Int)) := by unfold World.cell?; rw [HB4.out.2.2.1]; rfl
  have k1 : w4.cell? ⟨w3.heap.size, 1, none⟩ = some (.int .i64 uw) := by unfold World.cell?; rw [HB4.out.2.2.1]; rfl
  have k2 : w4.cell? ⟨w3.heap.size, 2, none⟩ = some (.string un) := by unfold World.cell?; rw [HB4.out.2.2.1]; rfl
  have HK := Lib.hid (And.intro k0 (And.intro k1 k2))
  clear k0 k1 k2
  go_wp2_with (go_at_call 11; refine hf2.mono ?_; clear hf2; rintro e w5 ⟨rfl, hb5⟩; have HB5 := Lib.hid (HB4.out.1.trans (hb5.mono HB4.out.1.size)); have k0 := (hb5.cell (p := ⟨w3.heap.size, 0, none⟩) (block_lt_of_cell HK.out.1)).trans HK.out.1; have k1 := (hb5.cell (p := ⟨w3.heap.size, 1, none⟩) (block_lt_of_cell HK.out.2.1)).trans HK.out.2.1; have k2 := (hb5.cell (p := ⟨w3.heap.size, 2, none⟩) (block_lt_of_cell HK.out.2.2)).trans HK.out.2.2; obtain ⟨w6, hw6⟩ : ∃ w6, w5.alloc (.cells #[.int .i64 (us : Int), .int .i64 uw, .string un] 35) = w6 := ⟨_, rfl⟩; have HB6 := Lib.hid (Sp.below_new (Below.refl _ w5) hw6 (Nat.le_refl _)); clear hb5; refine Hid.out ?_)
  refine Lib.hid ?_
  have m0 := (HB6.out.1.cell (p := ⟨w3.heap.size, 0, none⟩) (block_lt_of_cell k0)).trans k0
  have m1 := (HB6.out.1.cell (p := ⟨w3.heap.size, 1, none⟩) (block_lt_of_cell k1)).trans k1
  have m2 := (HB6.out.1.cell (p := ⟨w3.heap.size, 2, none⟩) (block_lt_of_cell k2)).trans k2
  have l0 : w6.cell? ⟨w5.heap.size, 0, none⟩ = some (.int .i64 (us : Int)) := by unfold World.cell?; rw [HB6.out.2.2.1]; rfl
  have l1 : w6.cell? ⟨w5.heap.size, 1, none⟩ = some (.int .i64 uw) := by unfold World.cell?; rw [HB6.out.2.2.1]; rfl
  have l2 : w6.cell? ⟨w5.heap.size, 2, none⟩ = some (.string un) := by unfold World.cell?; rw [HB6.out.2.2.1]; rfl
  clear k0 k1 k2
  have HBB := Lib.hid ((HB2.out.trans (HB5.out.mono HB2.out.size)).trans (HB6.out.1.mono (HB2.out.trans (HB5.out.mono HB2.out.size)).size))
  go_wp2
  refine bodyPost_ret (v := .tuple #[.bool true, .int .i64 0]) (by simp [results, Tryd.results15, go_sem]) rfl ?_
  rw [HV.out, HD.out]
  exact ⟨rfl, HBB.out⟩
end Go.Proofs.YtjbjgceblanhpaaDoor
