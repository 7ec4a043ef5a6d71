/-
  The walk of ScriptPrints.
-/
import Derived.Test.YtbaendhagojadaaScSameAll
import Derived.Test.YtbaendhagojadaaScLawA
namespace Go.Proofs.Ytbaendhagojadaa
open Go.RowKit Go.Sort
namespace Sc
theorem St.seven {w : World} {S : Nat} {v0 v1 v2 v3 v4 : Int} {p : Value} {x : ByteArray} (h : St w S [v0, v1, v2, v3, v4] p x) : w.cell? ⟨S, 0, none⟩ = some (.int .i64 v0) ∧ w.cell? ⟨S, 1, none⟩ = some (.int .i64 v1) ∧ w.cell? ⟨S, 2, none⟩ = some (.int .i64 v2) ∧ w.cell? ⟨S, 3, none⟩ = some (.int .i64 v3) ∧ w.cell? ⟨S, 4, none⟩ = some (.int .i64 v4) ∧ w.cell? ⟨S, 5, none⟩ = some p ∧ w.cell? ⟨S, 6, none⟩ = some (.string x) :=
  ⟨h.n 0 (by omega), h.n 1 (by omega), h.n 2 (by omega), h.n 3 (by omega), h.n 4 (by omega), h.c5, h.c6⟩
theorem St.below {w w' : World} {S : Nat} {v : List Int} {p : Value} {x : ByteArray} (h : St w S v p x) (hb : Below w.heap.size w w') : St w' S v p x := h.keep ((Keep.refl (fun _ => False) _).below hb) (fun h => h)
theorem Bytes.below {w w' : World} {a : Option Addr} {n : Nat} {ps : List UInt8} (h : Bytes w a n ps) (hb : Below w.heap.size w w') : Bytes w' a n ps := h.keep ((Keep.refl (fun _ => False) _).below hb) (fun _ _ h => h)
theorem last15 {A1 A2 A3 A4 A5 A6 A7 A8 A9 A10 A11 A12 A13 A14 B : Prop} (h : A1 ∧ A2 ∧ A3 ∧ A4 ∧ A5 ∧ A6 ∧ A7 ∧ A8 ∧ A9 ∧ A10 ∧ A11 ∧ A12 ∧ A13 ∧ A14 ∧ Hid B) : B := h.2.2.2.2.2.2.2.2.2.2.2.2.2.2.out
theorem bz {a b n : Nat} {w w' : World} (h : Below a w w') (hn : n ≤ a) : Below n w w' := h.mono hn
end Sc
set_option maxRecDepth 100000 in
set_option maxHeartbeats 8000000 in
theorem ScriptPrints_walk (v0 v1 v2 v3 v4 : Int) (a : Option Addr) (c : Nat) (ps : List UInt8) (x : ByteArray) (r0 r1 r2 r3 r4 : Int) (b : Option Addr) (c' : Nat) (qs : List UInt8) (y : ByteArray) (w : World) (ha : Sc.Bytes w a ps.length ps) (hb : Sc.Bytes w b qs.length qs) :
    Calls Try.prog 4 #[.agg #[.int .i64 v0, .int .i64 v1, .int .i64 v2, .int .i64 v3, .int .i64 v4, .slice a ps.length c, .string x], .agg #[.int .i64 r0, .int .i64 r1, .int .i64 r2, .int .i64 r3, .int .i64 r4, .slice b qs.length c', .string y]] w fun e w' => e = .returned (.bool true) ∧ Below w.heap.size w w' := by
  obtain ⟨W, hW⟩ : ∃ W, w.heap.size = W := ⟨_, rfl⟩
  obtain ⟨w2, hw2⟩ : ∃ w2, (w.alloc (.cells #[.int .i64 v0, .int .i64 v1, .int .i64 v2, .int .i64 v3, .int .i64 v4, .slice a ps.length c, .string x] 25)).alloc (.cells #[.int .i64 r0, .int .i64 r1, .int .i64 r2, .int .i64 r3, .int .i64 r4, .slice b qs.length c', .string y] 25) = w2 := ⟨_, rfl⟩
  have hb2 : Below w.heap.size w w2 := by rw [← hw2]; exact ((Below.refl _ _).alloc (Nat.le_refl _) _).alloc (by simp) _
  have s1 := (Sc.seven_of w v0 v1 v2 v3 v4 (.slice a ps.length c) x 25).keep ((Keep.refl (fun _ => False) _).alloc (.cells #[.int .i64 r0, .int .i64 r1, .int .i64 r2, .int .i64 r3, .int .i64 r4, .slice b qs.length c', .string y] 25)) (fun h => h)
  have s2 := Sc.seven_of (w.alloc (.cells #[.int .i64 v0, .int .i64 v1, .int .i64 v2, .int .i64 v3, .int .i64 v4, .slice a ps.length c, .string x] 25)) r0 r1 r2 r3 r4 (.slice b qs.length c') y 25
  rw [hw2] at s1 s2
  simp only [World.size_alloc] at s1 s2
  rw [hW] at s1 s2
  have HSA0 := Lib.hid s1
  have HSB0 := Lib.hid s2
  have HPA0 : Hid (Sc.Bytes w2 a ps.length ps) := ha.below hb2
  have HPB0 : Hid (Sc.Bytes w2 b qs.length qs) := hb.below hb2
  have HB0 := Lib.hid hb2
  clear s1 s2 ha hb hb2
  obtain ⟨p0, p1, p2, p3, p4, p5, p6⟩ := HSA0.out.seven
  obtain ⟨q0, q1, q2, q3, q4, q5, q6⟩ := HSB0.out.seven
  obtain ⟨fa, hfa⟩ : ∃ fa, (decide (ps.length ≤ 2000) && decide (x.size ≤ 40000)) = fa := ⟨_, rfl⟩
  have HFA := Lib.hid hfa
  clear hfa
  cases fa
  case false =>
    go_enter Try.func4, Try.ntmps4
    go_wp2_with fail
    refine (awake25_any _).mono ?_
    rintro e w3 ⟨rfl, hbx⟩
    have HSA1 := Lib.hid (HSA0.out.below hbx)
    have HSB1 := Lib.hid (HSB0.out.below hbx)
    have HPA1 := Lib.hid (HPA0.out.below hbx)
    have HPB1 := Lib.hid (HPB0.out.below hbx)
    have HB1 := Lib.hid (bchain HB0.out hbx)
    clear hbx p0 p1 p2 p3 p4 p5 p6 q0 q1 q2 q3 q4 q5 q6
    obtain ⟨p0, p1, p2, p3, p4, p5, p6⟩ := HSA1.out.seven
    obtain ⟨q0, q1, q2, q3, q4, q5, q6⟩ := HSB1.out.seven
    clear hw2 hW
    go_wp2_with fail
    refine (small_any v0 v1 v2 v3 v4 a c ps.length x _ false HFA.out).mono ?_
    rintro e w4 ⟨rfl, hbx⟩
    have HSA2 := Lib.hid (HSA1.out.below hbx)
    have HSB2 := Lib.hid (HSB1.out.below hbx)
    have HPA2 := Lib.hid (HPA1.out.below hbx)
    have HPB2 := Lib.hid (HPB1.out.below hbx)
    have HB2 := Lib.hid (bchain HB1.out hbx)
    clear hbx p0 p1 p2 p3 p4 p5 p6 q0 q1 q2 q3 q4 q5 q6
    obtain ⟨p0, p1, p2, p3, p4, p5, p6⟩ := HSA2.out.seven
    obtain ⟨q0, q1, q2, q3, q4, q5, q6⟩ := HSB2.out.seven
    go_wp2_with fail
    refine (awake25_any _).mono ?_
    rintro e w9 ⟨rfl, hb9⟩
    go_wp2
    go_ret
    exact ⟨rfl, bchain HB2.out hb9⟩
  obtain ⟨fb, hfb⟩ : ∃ fb, (decide (qs.length ≤ 2000) && decide (y.size ≤ 40000)) = fb := ⟨_, rfl⟩
  have HFB := Lib.hid hfb
  clear hfb
  cases fb
  case false =>
    go_enter Try.func4, Try.ntmps4
    go_wp2_with fail
    refine (awake25_any _).mono ?_
    rintro e w3 ⟨rfl, hbx⟩
    have HSA1 := Lib.hid (HSA0.out.below hbx)
    have HSB1 := Lib.hid (HSB0.out.below hbx)
    have HPA1 := Lib.hid (HPA0.out.below hbx)
    have HPB1 := Lib.hid (HPB0.out.below hbx)
    have HB1 := Lib.hid (bchain HB0.out hbx)
    clear hbx p0 p1 p2 p3 p4 p5 p6 q0 q1 q2 q3 q4 q5 q6
    obtain ⟨p0, p1, p2, p3, p4, p5, p6⟩ := HSA1.out.seven
    obtain ⟨q0, q1, q2, q3, q4, q5, q6⟩ := HSB1.out.seven
    clear hw2 hW
    go_wp2_with fail
    refine (small_any v0 v1 v2 v3 v4 a c ps.length x _ true HFA.out).mono ?_
    rintro e w4 ⟨rfl, hbx⟩
    have HSA2 := Lib.hid (HSA1.out.below hbx)
    have HSB2 := Lib.hid (HSB1.out.below hbx)
    have HPA2 := Lib.hid (HPA1.out.below hbx)
    have HPB2 := Lib.hid (HPB1.out.below hbx)
    have HB2 := Lib.hid (bchain HB1.out hbx)
    clear hbx p0 p1 p2 p3 p4 p5 p6 q0 q1 q2 q3 q4 q5 q6
    obtain ⟨p0, p1, p2, p3, p4, p5, p6⟩ := HSA2.out.seven
    obtain ⟨q0, q1, q2, q3, q4, q5, q6⟩ := HSB2.out.seven
    go_wp2_with fail
    refine (small_any r0 r1 r2 r3 r4 b c' qs.length y _ false HFB.out).mono ?_
    rintro e w5 ⟨rfl, hbx⟩
    have HSA3 := Lib.hid (HSA2.out.below hbx)
    have HSB3 := Lib.hid (HSB2.out.below hbx)
    have HPA3 := Lib.hid (HPA2.out.below hbx)
    have HPB3 := Lib.hid (HPB2.out.below hbx)
    have HB3 := Lib.hid (bchain HB2.out hbx)
    clear hbx p0 p1 p2 p3 p4 p5 p6 q0 q1 q2 q3 q4 q5 q6
    obtain ⟨p0, p1, p2, p3, p4, p5, p6⟩ := HSA3.out.seven
    obtain ⟨q0, q1, q2, q3, q4, q5, q6⟩ := HSB3.out.seven
    go_wp2_with fail
    refine (awake25_any _).mono ?_
    rintro e w9 ⟨rfl, hb9⟩
    go_wp2
    go_ret
    exact ⟨rfl, bchain HB3.out hb9⟩
  have hA : ps.length ≤ 2000 ∧ x.size ≤ 40000 := by have := HFA.out; simpa using this
  have hB : qs.length ≤ 2000 ∧ y.size ≤ 40000 := by have := HFB.out; simpa using this
  have l1 : ps.length ≤ 1000000 := by omega
  have l2 : x.size ≤ 1000000 := by omega
  have l3 : qs.length ≤ 1000000 := by omega
  have l4 : y.size ≤ 1000000 := by omega
  clear hA hB
  obtain ⟨s, hs⟩ : ∃ s : Sc.Scr, (⟨v0, v1, v2, v3, v4, ps, x.data.toList⟩ : Sc.Scr) = s := ⟨_, rfl⟩
  obtain ⟨t, ht⟩ : ∃ t : Sc.Scr, (⟨r0, r1, r2, r3, r4, qs, y.data.toList⟩ : Sc.Scr) = t := ⟨_, rfl⟩
  have HP1 := Lib.hid (fun wq (h : Sc.Bytes wq a ps.length ps) => Print_any v0 v1 v2 v3 v4 a c ps x wq h l1 l2)
  have HP2 := Lib.hid (fun wq (h : Sc.Bytes wq a ps.length ps) => Print25_any v0 v1 v2 v3 v4 a c ps x wq h l1 l2)
  have HC1 := Lib.hid (fun wq (h : Sc.Bytes wq a ps.length ps) => Check_any v0 v1 v2 v3 v4 a c ps x wq h l1 l2)
  have HC2 := Lib.hid (fun wq (h : Sc.Bytes wq a ps.length ps) => Check25_any v0 v1 v2 v3 v4 a c ps x wq h l1 l2)
  have HE1 := Lib.hid (fun wq (h : Sc.Bytes wq a ps.length ps) (h' : Sc.Bytes wq b qs.length qs) => Same_any v0 v1 v2 v3 v4 r0 r1 r2 r3 r4 a b c c' ps qs x y wq h h' l1 l3)
  have HE2 := Lib.hid (fun wq (h : Sc.Bytes wq a ps.length ps) (h' : Sc.Bytes wq b qs.length qs) => Same25_all v0 v1 v2 v3 v4 r0 r1 r2 r3 r4 a b c c' ps qs x y wq h h' l1 l3)
  have HE3 := Lib.hid (fun wq (h : Sc.Bytes wq a ps.length ps) => Same_any v0 v1 v2 v3 v4 v0 v1 v2 v3 v4 a a c c ps ps x x wq h h l1 l1)
  rw [hs] at HP1 HP2 HC1 HC2 HE1 HE2 HE3
  rw [ht] at HE1 HE2
  rw [Sc.same_refl] at HE3
  obtain ⟨T, hT⟩ : ∃ T : ByteArray, (⟨(Sc.prT s).toArray⟩ : ByteArray) = T := ⟨_, rfl⟩
  obtain ⟨E, hE⟩ : ∃ E, Sc.prE s = E := ⟨_, rfl⟩
  obtain ⟨C, hC⟩ : ∃ C, Sc.chkE s = C := ⟨_, rfl⟩
  obtain ⟨F, hF⟩ : ∃ F, Sc.sameB s t = F := ⟨_, rfl⟩
  unfold Sc.PrintPost at HP1 HP2
  rw [hT, hE] at HP1 HP2
  rw [hC] at HC1 HC2
  rw [hF] at HE1 HE2
  have t1 : (T.toList == T.toList) = true := by simp
  have t2 : (E == E) = true := by simp
  have t3 : (C == C) = true := by simp
  have t4 : (F == F) = true := by simp
  clear hs ht hT hE hC hF
  go_enter Try.func4, Try.ntmps4
  go_wp2_with fail
  refine (awake25_any _).mono ?_
  rintro e w3 ⟨rfl, hbx⟩
  have HSA1 := Lib.hid (HSA0.out.below hbx)
  have HSB1 := Lib.hid (HSB0.out.below hbx)
  have HPA1 := Lib.hid (HPA0.out.below hbx)
  have HPB1 := Lib.hid (HPB0.out.below hbx)
  have HB1 := Lib.hid (bchain HB0.out hbx)
  clear hbx p0 p1 p2 p3 p4 p5 p6 q0 q1 q2 q3 q4 q5 q6
  obtain ⟨p0, p1, p2, p3, p4, p5, p6⟩ := HSA1.out.seven
  obtain ⟨q0, q1, q2, q3, q4, q5, q6⟩ := HSB1.out.seven
  clear hw2 hW
  go_wp2_with fail
  refine (small_any v0 v1 v2 v3 v4 a c ps.length x _ true HFA.out).mono ?_
  rintro e w4 ⟨rfl, hbx⟩
  have HSA2 := Lib.hid (HSA1.out.below hbx)
  have HSB2 := Lib.hid (HSB1.out.below hbx)
  have HPA2 := Lib.hid (HPA1.out.below hbx)
  have HPB2 := Lib.hid (HPB1.out.below hbx)
  have HB2 := Lib.hid (bchain HB1.out hbx)
  clear hbx p0 p1 p2 p3 p4 p5 p6 q0 q1 q2 q3 q4 q5 q6
  obtain ⟨p0, p1, p2, p3, p4, p5, p6⟩ := HSA2.out.seven
  obtain ⟨q0, q1, q2, q3, q4, q5, q6⟩ := HSB2.out.seven
  go_wp2_with fail
  refine (small_any r0 r1 r2 r3 r4 b c' qs.length y _ true HFB.out).mono ?_
  rintro e w5 ⟨rfl, hbx⟩
  have HSA3 := Lib.hid (HSA2.out.below hbx)
  have HSB3 := Lib.hid (HSB2.out.below hbx)
  have HPA3 := Lib.hid (HPA2.out.below hbx)
  have HPB3 := Lib.hid (HPB2.out.below hbx)
  have HB3 := Lib.hid (bchain HB2.out hbx)
  clear hbx p0 p1 p2 p3 p4 p5 p6 q0 q1 q2 q3 q4 q5 q6
  obtain ⟨p0, p1, p2, p3, p4, p5, p6⟩ := HSA3.out.seven
  obtain ⟨q0, q1, q2, q3, q4, q5, q6⟩ := HSB3.out.seven
  go_wp2_with fail
  refine (HP1.out _ HPA3.out).mono ?_
  rintro e w6 ⟨rfl, hbx⟩
  have HSA4 := Lib.hid (HSA3.out.below hbx)
  have HSB4 := Lib.hid (HSB3.out.below hbx)
  have HPA4 := Lib.hid (HPA3.out.below hbx)
  have HPB4 := Lib.hid (HPB3.out.below hbx)
  have HB4 := Lib.hid (bchain HB3.out hbx)
  clear hbx p0 p1 p2 p3 p4 p5 p6 q0 q1 q2 q3 q4 q5 q6
  obtain ⟨p0, p1, p2, p3, p4, p5, p6⟩ := HSA4.out.seven
  obtain ⟨q0, q1, q2, q3, q4, q5, q6⟩ := HSB4.out.seven
  go_wp2_with fail
  refine (HP2.out _ HPA4.out).mono ?_
  rintro e w7 ⟨rfl, hbx⟩
  have HSA5 := Lib.hid (HSA4.out.below hbx)
  have HSB5 := Lib.hid (HSB4.out.below hbx)
  have HPA5 := Lib.hid (HPA4.out.below hbx)
  have HPB5 := Lib.hid (HPB4.out.below hbx)
  have HB5 := Lib.hid (bchain HB4.out hbx)
  clear hbx p0 p1 p2 p3 p4 p5 p6 q0 q1 q2 q3 q4 q5 q6
  obtain ⟨p0, p1, p2, p3, p4, p5, p6⟩ := HSA5.out.seven
  obtain ⟨q0, q1, q2, q3, q4, q5, q6⟩ := HSB5.out.seven
  have HMK : Hid (∀ w', Below w7.heap.size w7 w' → w'.cell? ⟨W, 0, none⟩ = some (.int .i64 v0) ∧ w'.cell? ⟨W, 1, none⟩ = some (.int .i64 v1) ∧ w'.cell? ⟨W, 2, none⟩ = some (.int .i64 v2) ∧ w'.cell? ⟨W, 3, none⟩ = some (.int .i64 v3) ∧ w'.cell? ⟨W, 4, none⟩ = some (.int .i64 v4) ∧ w'.cell? ⟨W, 5, none⟩ = some (.slice a ps.length c) ∧ w'.cell? ⟨W, 6, none⟩ = some (.string x) ∧ w'.cell? ⟨W + 1, 0, none⟩ = some (.int .i64 r0) ∧ w'.cell? ⟨W + 1, 1, none⟩ = some (.int .i64 r1) ∧ w'.cell? ⟨W + 1, 2, none⟩ = some (.int .i64 r2) ∧ w'.cell? ⟨W + 1, 3, none⟩ = some (.int .i64 r3) ∧ w'.cell? ⟨W + 1, 4, none⟩ = some (.int .i64 r4) ∧ w'.cell? ⟨W + 1, 5, none⟩ = some (.slice b qs.length c') ∧ w'.cell? ⟨W + 1, 6, none⟩ = some (.string y) ∧ Hid (Below w7.heap.size w7 w')) := by
    intro w' hb
    obtain ⟨p0, p1, p2, p3, p4, p5, p6⟩ := (HSA5.out.below hb).seven
    obtain ⟨q0, q1, q2, q3, q4, q5, q6⟩ := (HSB5.out.below hb).seven
    exact ⟨p0, p1, p2, p3, p4, p5, p6, q0, q1, q2, q3, q4, q5, q6, hb⟩
  go_wp2_with fail
  clear l1 l2 l3 l4
  go_region_held3 (fun w' => w'.cell? ⟨W, 0, none⟩ = some (.int .i64 v0) ∧ w'.cell? ⟨W, 1, none⟩ = some (.int .i64 v1) ∧ w'.cell? ⟨W, 2, none⟩ = some (.int .i64 v2) ∧ w'.cell? ⟨W, 3, none⟩ = some (.int .i64 v3) ∧ w'.cell? ⟨W, 4, none⟩ = some (.int .i64 v4) ∧ w'.cell? ⟨W, 5, none⟩ = some (.slice a ps.length c) ∧ w'.cell? ⟨W, 6, none⟩ = some (.string x) ∧ w'.cell? ⟨W + 1, 0, none⟩ = some (.int .i64 r0) ∧ w'.cell? ⟨W + 1, 1, none⟩ = some (.int .i64 r1) ∧ w'.cell? ⟨W + 1, 2, none⟩ = some (.int .i64 r2) ∧ w'.cell? ⟨W + 1, 3, none⟩ = some (.int .i64 r3) ∧ w'.cell? ⟨W + 1, 4, none⟩ = some (.int .i64 r4) ∧ w'.cell? ⟨W + 1, 5, none⟩ = some (.slice b qs.length c') ∧ w'.cell? ⟨W + 1, 6, none⟩ = some (.string y) ∧ Hid (Below w7.heap.size w7 w')) (first | exact HMK.out _ ((Below.refl _ _).drew) | exact HMK.out _ (bchain (Sc.last15 (by assumption)) hb14) | exact HMK.out _ (bchain (Sc.last15 (by assumption)) hb13) | exact HMK.out _ (bchain (Sc.last15 (by assumption)) hb12) | exact HMK.out _ (bchain (Sc.last15 (by assumption)) hb11) | exact HMK.out _ (bchain (Sc.last15 (by assumption)) hb10))
    (first | (go_at_call 14; refine (HC1.out _ (HPA5.out.below (Sc.last15 (by assumption)))).mono ?_; rintro e w10 ⟨rfl, hb10⟩) | (go_at_call 15; refine (HC2.out _ (HPA5.out.below (Sc.last15 (by assumption)))).mono ?_; rintro e w11 ⟨rfl, hb11⟩) | (go_at_call 10; refine (HE2.out _ (HPA5.out.below (Sc.last15 (by assumption))) (HPB5.out.below (Sc.last15 (by assumption)))).mono ?_; rintro e w13 ⟨rfl, hb13⟩) | (go_at_call 16; ((with_reducible refine (HE1.out _ (HPA5.out.below (Sc.last15 (by assumption))) (HPB5.out.below (Sc.last15 (by assumption)))).mono ?_); rintro e w12 ⟨rfl, hb12⟩)) | (go_at_call 16; refine (HE3.out _ (HPA5.out.below (Sc.last15 (by assumption)))).mono ?_; rintro e w14 ⟨rfl, hb14⟩; have hb15 : Below w7.heap.size w7 w14 := bchain (Sc.last15 (by assumption)) hb14))
  all_goals
    go_wp2
    go_ret
    exact ⟨rfl, bchain HB5.out hb15⟩
end Go.Proofs.Ytbaendhagojadaa
