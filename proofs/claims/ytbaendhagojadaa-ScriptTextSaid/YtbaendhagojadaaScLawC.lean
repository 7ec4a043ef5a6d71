/-
  The walk of ScriptBack.
-/
import Derived.Test.YtbaendhagojadaaScLawB
namespace Go.Proofs.Ytbaendhagojadaa
open Go.RowKit Go.Sort
namespace Sc
theorem tailP_err (s : Scr) (t : List UInt8) (n k : Int) (h : tailP s t = .err n k) : k = 250 ∧ 6 ≤ n ∧ n ≤ 7 := by
  have hlast : ∀ (m : Int) (s : Scr) (l r : List UInt8), last m s l r = .err n k → k = 250 ∧ n = m := by
    intro m s l r h
    unfold last at h
    split at h
    · cases h
    · injection h with h1 h2
      exact ⟨h2.symm, h1.symm⟩
  unfold tailP at h
  split at h
  · injection h with h1 h2; omega
  · split at h
    · have := hlast _ _ _ _ h; omega
    · split at h
      · injection h with h1 h2; omega
      · split at h
        · injection h with h1 h2; omega
        · have := hlast _ _ _ _ h; omega
theorem nums_err : ∀ (f k : Nat) (v : List Int) (t : List UInt8) (n e : Int), f + k = 5 → nums f k v t = .err n e → e = 250 ∧ 1 ≤ n ∧ n ≤ 7 := by
  intro f
  induction f with
  | zero => intro k v t n e _ h; have := tailP_err _ _ _ _ (show tailP (mk v) t = .err n e from h); omega
  | succ f ih =>
    intro k v t n e hk h
    unfold nums at h
    split at h
    · injection h with h1 h2; omega
    · exact ih _ _ _ _ _ (by omega) h
theorem parse_err (t : List UInt8) (n e : Int) (h : parse t = .err n e) : (e = 3 ∧ n = 0 ∧ 20000 < t.length) ∨ (e = 250 ∧ 1 ≤ n ∧ n ≤ 7 ∧ t.length ≤ 20000) := by
  unfold parse at h
  split at h
  · injection h with h1 h2; exact .inl ⟨h2.symm, h1.symm, by assumption⟩
  · have := nums_err _ _ _ _ _ _ rfl h
    exact .inr ⟨this.1, this.2.1, this.2.2, by omega⟩
end Sc
theorem Parse_ok (q0 q1 q2 q3 q4 : Int) (qp : List UInt8) (X T : ByteArray) (w : World) (hT : T.size ≤ 1000000) (h : Sc.parse T.data.toList = .ok ⟨q0, q1, q2, q3, q4, qp, X.data.toList⟩) :
    Calls Try.prog 8 #[.string T] w fun e w' => ∃ (pa : Option Addr) (pc : Nat), e = .returned (.tuple #[.agg #[.int .i64 q0, .int .i64 q1, .int .i64 q2, .int .i64 q3, .int .i64 q4, .slice pa qp.length pc, .string X], .int .i64 0, .int .i64 0]) ∧ Sc.Bytes w' pa qp.length qp ∧ Below w.heap.size w w' := by
  have hP := Parse_walk T w hT
  rw [h] at hP
  refine hP.mono ?_
  rintro e w' ⟨hb, pv, rfl, ho⟩
  obtain ⟨pa, pc, rfl⟩ := Sc.own_form ho
  refine ⟨pa, pc, ?_, Sc.Bytes.of_own ho, hb⟩
  rw [Sc.mk_list]
theorem Parse_err (n k : Int) (T : ByteArray) (w : World) (hT : T.size ≤ 1000000) (h : Sc.parse T.data.toList = .err n k) :
    Calls Try.prog 8 #[.string T] w fun e w' => e = .returned (.tuple #[.agg #[.int .i64 0, .int .i64 0, .int .i64 0, .int .i64 0, .int .i64 0, .slice none 0 0, .string ⟨#[]⟩], .int .i64 n, .int .i64 k]) ∧ Below w.heap.size w w' := by
  have hP := Parse_walk T w hT
  rw [h] at hP
  refine hP.mono ?_
  rintro e w' ⟨hb, rfl⟩
  exact ⟨rfl, hb⟩
theorem Print_ok (v0 v1 v2 v3 v4 : Int) (pa : Option Addr) (pc : Nat) (ps : List UInt8) (x T : ByteArray) (w : World) (hp : Sc.Bytes w pa ps.length ps) (hl : ps.length ≤ 1000000) (hx : x.size ≤ 1000000) (hc : Sc.check ⟨v0, v1, v2, v3, v4, ps, x.data.toList⟩ = true) (hT : T.data.toList = Sc.body ⟨v0, v1, v2, v3, v4, ps, x.data.toList⟩) (hTl : T.size ≤ 20000) :
    Calls Try.prog 12 #[.agg #[.int .i64 v0, .int .i64 v1, .int .i64 v2, .int .i64 v3, .int .i64 v4, .slice pa ps.length pc, .string x]] w fun e w' => e = .returned (.tuple #[.string T, .int .i64 0]) ∧ Below w.heap.size w w' := by
  refine (Print_any v0 v1 v2 v3 v4 pa pc ps x w hp hl hx).mono ?_
  rintro e w' ⟨rfl, hb⟩
  refine ⟨?_, hb⟩
  have hE : Sc.prE ⟨v0, v1, v2, v3, v4, ps, x.data.toList⟩ = 0 := by
    unfold Sc.prE
    rw [if_pos hc, if_neg (by rw [← hT, Fx.size_toList]; omega)]
  have hTT : Sc.prT ⟨v0, v1, v2, v3, v4, ps, x.data.toList⟩ = T.data.toList := by
    unfold Sc.prT
    rw [if_pos hE, hT]
  rw [hE, hTT, Sc.mk_list]
set_option maxRecDepth 100000 in
set_option maxHeartbeats 8000000 in
theorem ScriptBack_walk (v0 v1 v2 v3 v4 : Int) (a : Option Addr) (c : Nat) (ps : List UInt8) (x : ByteArray) (t : ByteArray) (w : World) (ha : Sc.Bytes w a ps.length ps) (_ht : t.size ≤ maxLen) :
    Calls Try.prog 5 #[.agg #[.int .i64 v0, .int .i64 v1, .int .i64 v2, .int .i64 v3, .int .i64 v4, .slice a ps.length c, .string x], .string t] w fun e w' => e = .returned (.bool true) ∧ Below w.heap.size w w' := by
  obtain ⟨W, hW⟩ : ∃ W, w.heap.size = W := ⟨_, rfl⟩
  obtain ⟨w2, hw2⟩ : ∃ w2, w.alloc (.cells #[.int .i64 v0, .int .i64 v1, .int .i64 v2, .int .i64 v3, .int .i64 v4, .slice a ps.length c, .string x] 25) = w2 := ⟨_, rfl⟩
  have hb2 : Below w.heap.size w w2 := by rw [← hw2]; exact (Below.refl _ _).alloc (Nat.le_refl _) _
  have s1 := Sc.seven_of w v0 v1 v2 v3 v4 (.slice a ps.length c) x 25
  rw [hw2, hW] at s1
  have HSA0 := Lib.hid s1
  have HPA0 : Hid (Sc.Bytes w2 a ps.length ps) := ha.below hb2
  have HB0 := Lib.hid hb2
  clear s1 ha hb2
  obtain ⟨p0, p1, p2, p3, p4, p5, p6⟩ := HSA0.out.seven
  obtain ⟨fa, hfa⟩ : ∃ fa, (decide (ps.length ≤ 2000) && decide (x.size ≤ 40000)) = fa := ⟨_, rfl⟩
  have HFA := Lib.hid hfa
  clear hfa
  cases fa
  case false =>
    go_enter Try.func5, Try.ntmps5
    go_wp2_with fail
    refine (awake25_any _).mono ?_
    rintro e w3 ⟨rfl, hbx⟩
    have HSA1 := Lib.hid (HSA0.out.below hbx)
    have HPA1 := Lib.hid (HPA0.out.below hbx)
    have HB1 := Lib.hid (bchain HB0.out hbx)
    have HX1 := Lib.hid hbx
    clear hbx p0 p1 p2 p3 p4 p5 p6
    obtain ⟨p0, p1, p2, p3, p4, p5, p6⟩ := HSA1.out.seven
    clear hw2 hW
    go_wp2_with fail
    refine (small_any v0 v1 v2 v3 v4 a c ps.length x _ false HFA.out).mono ?_
    rintro e w4 ⟨rfl, hbx⟩
    have HSA2 := Lib.hid (HSA1.out.below hbx)
    have HPA2 := Lib.hid (HPA1.out.below hbx)
    have HB2 := Lib.hid (bchain HB1.out hbx)
    have HX2 := Lib.hid hbx
    clear hbx p0 p1 p2 p3 p4 p5 p6
    obtain ⟨p0, p1, p2, p3, p4, p5, p6⟩ := HSA2.out.seven
    go_wp2_with fail
    refine (awake25_any _).mono ?_
    rintro e w9 ⟨rfl, hb9⟩
    go_wp2
    go_ret
    exact ⟨rfl, bchain HB2.out hb9⟩
  by_cases hbig : 40000 < t.size
  case pos =>
    have hbigi : 40000 < (t.size : Int) := by omega
    go_enter Try.func5, Try.ntmps5
    go_wp2_with fail
    refine (awake25_any _).mono ?_
    rintro e w3 ⟨rfl, hbx⟩
    have HSA1 := Lib.hid (HSA0.out.below hbx)
    have HPA1 := Lib.hid (HPA0.out.below hbx)
    have HB1 := Lib.hid (bchain HB0.out hbx)
    have HX1 := Lib.hid hbx
    clear hbx p0 p1 p2 p3 p4 p5 p6
    obtain ⟨p0, p1, p2, p3, p4, p5, p6⟩ := HSA1.out.seven
    clear hw2 hW
    go_wp2_with fail
    refine (small_any v0 v1 v2 v3 v4 a c ps.length x _ true HFA.out).mono ?_
    rintro e w4 ⟨rfl, hbx⟩
    have HSA2 := Lib.hid (HSA1.out.below hbx)
    have HPA2 := Lib.hid (HPA1.out.below hbx)
    have HB2 := Lib.hid (bchain HB1.out hbx)
    have HX2 := Lib.hid hbx
    clear hbx p0 p1 p2 p3 p4 p5 p6
    obtain ⟨p0, p1, p2, p3, p4, p5, p6⟩ := HSA2.out.seven
    go_wp2_with fail
    refine (awake25_any _).mono ?_
    rintro e w9 ⟨rfl, hb9⟩
    go_wp2
    go_ret
    exact ⟨rfl, bchain HB2.out hb9⟩
  have hbigi : ¬ 40000 < (t.size : Int) := by omega
  have htl : t.size ≤ 1000000 := by omega
  have hA : ps.length ≤ 2000 ∧ x.size ≤ 40000 := by have := HFA.out; simpa using this
  have l1 : ps.length ≤ 1000000 := by omega
  have l2 : x.size ≤ 1000000 := by omega
  clear hA
  obtain ⟨s, hs⟩ : ∃ s : Sc.Scr, (⟨v0, v1, v2, v3, v4, ps, x.data.toList⟩ : Sc.Scr) = s := ⟨_, rfl⟩
  by_cases hE : Sc.prE s = 0
  case neg =>
    have HP1 := Lib.hid (fun wq (h : Sc.Bytes wq a ps.length ps) => Print_any v0 v1 v2 v3 v4 a c ps x wq h l1 l2)
    rw [hs] at HP1
    unfold Sc.PrintPost at HP1
    obtain ⟨T, hT⟩ : ∃ T : ByteArray, (⟨(Sc.prT s).toArray⟩ : ByteArray) = T := ⟨_, rfl⟩
    obtain ⟨E, hEE⟩ : ∃ E, Sc.prE s = E := ⟨_, rfl⟩
    rw [hT, hEE] at HP1
    have t2 : (E == 0) = false := by rw [beq_eq_false_iff_ne, ← hEE]; exact hE
    clear hs hT hEE hE
    go_enter Try.func5, Try.ntmps5
    go_wp2_with fail
    refine (awake25_any _).mono ?_
    rintro e w3 ⟨rfl, hbx⟩
    have HSA1 := Lib.hid (HSA0.out.below hbx)
    have HPA1 := Lib.hid (HPA0.out.below hbx)
    have HB1 := Lib.hid (bchain HB0.out hbx)
    have HX1 := Lib.hid hbx
    clear hbx p0 p1 p2 p3 p4 p5 p6
    obtain ⟨p0, p1, p2, p3, p4, p5, p6⟩ := HSA1.out.seven
    clear hw2 hW
    go_wp2_with fail
    refine (small_any v0 v1 v2 v3 v4 a c ps.length x _ true HFA.out).mono ?_
    rintro e w4 ⟨rfl, hbx⟩
    have HSA2 := Lib.hid (HSA1.out.below hbx)
    have HPA2 := Lib.hid (HPA1.out.below hbx)
    have HB2 := Lib.hid (bchain HB1.out hbx)
    have HX2 := Lib.hid hbx
    clear hbx p0 p1 p2 p3 p4 p5 p6
    obtain ⟨p0, p1, p2, p3, p4, p5, p6⟩ := HSA2.out.seven
    go_wp2_with fail
    refine (HP1.out _ HPA2.out).mono ?_
    rintro e w5 ⟨rfl, hbx⟩
    have HSA3 := Lib.hid (HSA2.out.below hbx)
    have HPA3 := Lib.hid (HPA2.out.below hbx)
    have HB3 := Lib.hid (bchain HB2.out hbx)
    have HX3 := Lib.hid hbx
    clear hbx p0 p1 p2 p3 p4 p5 p6
    obtain ⟨p0, p1, p2, p3, p4, p5, p6⟩ := HSA3.out.seven
    cases hpt : Sc.parse t.data.toList with
    | err n k =>
      have hpe := Sc.parse_err _ _ _ hpt
      have hk : (k != 0) = true := by rw [bne_iff_ne]; omega
      have hPe := fun wq => Parse_err n k t wq htl hpt
      clear hpe hpt
      go_wp2_with fail
      refine (hPe _).mono ?_
      rintro e w20 ⟨rfl, hb20⟩
      have HB20 := Lib.hid (bchain HB3.out hb20)
      clear hb20 hPe p0 p1 p2 p3 p4 p5 p6
      go_wp2
      go_ret
      exact ⟨rfl, HB20.out.alloc HB20.out.size _⟩
    | ok q =>
      obtain ⟨q0, q1, q2, q3, q4, qp, qx⟩ := q
      obtain ⟨X, rfl⟩ : ∃ X : ByteArray, qx = X.data.toList := ⟨⟨qx.toArray⟩, by simp⟩
      obtain ⟨hq1, hq2, hq3⟩ := Sc.of_parse _ _ hpt
      obtain ⟨_, g1, g2, _⟩ := Sc.check_parts _ hq1
      simp only [] at g1 g2
      rw [Fx.size_toList] at g2 hq3
      have hPo := fun wq => Parse_ok q0 q1 q2 q3 q4 qp X t wq htl hpt
      have HPR := Lib.hid (fun wq pa pc (h : Sc.Bytes wq pa qp.length qp) => Print_ok q0 q1 q2 q3 q4 pa pc qp X t wq h (by omega) (by omega) hq1 hq2.symm hq3)
      have ht1 : (t.toList == t.toList) = true := by simp
      clear hpt hq1 hq2 hq3
      go_wp2_with fail
      refine (hPo _).mono ?_
      rintro e w20 ⟨pa, pc, rfl, hpb, hb20⟩
      have HB20 := Lib.hid (bchain HB3.out hb20)
      have HPB := Lib.hid hpb
      clear hb20 hPo hpb p0 p1 p2 p3 p4 p5 p6
      go_wp2_with fail
      refine (HPR.out _ pa pc (HPB.out.below ((Below.refl _ _).alloc (Nat.le_refl _) _))).mono ?_
      rintro e w21 ⟨rfl, hb21⟩
      have HB21 : Hid (Below w.heap.size w w21) := bchain (HB20.out.alloc HB20.out.size _) hb21
      clear hb21
      go_wp2
      go_ret
      exact ⟨rfl, HB21.out⟩
  have hck : Sc.check s = true := by
    apply Classical.byContradiction
    intro h
    unfold Sc.prE at hE
    rw [if_neg h] at hE
    cases hE
  have hbl : (Sc.body s).length ≤ 20000 := by
    unfold Sc.prE at hE
    rw [if_pos hck] at hE
    split at hE
    · cases hE
    · omega
  obtain ⟨T, hT⟩ : ∃ T : ByteArray, T.data.toList = Sc.body s := ⟨⟨(Sc.body s).toArray⟩, by simp⟩
  have hTl : T.size ≤ 20000 := by rw [← Fx.size_toList, hT]; exact hbl
  have hpb := Sc.parse_body s hck hbl
  rw [← hT, ← hs] at hpb
  rw [← hs] at hck hT
  have HP1 := Lib.hid (fun wq (h : Sc.Bytes wq a ps.length ps) => Print_ok v0 v1 v2 v3 v4 a c ps x T wq h l1 l2 hck hT hTl)
  have hPa := fun wq => Parse_ok v0 v1 v2 v3 v4 ps x T wq (by omega) hpb
  have HPA := Lib.hid hPa
  have HE1 := Lib.hid (fun wq pa pc (h : Sc.Bytes wq pa ps.length ps) (h' : Sc.Bytes wq a ps.length ps) => Same_any v0 v1 v2 v3 v4 v0 v1 v2 v3 v4 pa a pc c ps ps x x wq h h' l1 l1)
  have HE2 := Lib.hid (fun wq pa pc (h : Sc.Bytes wq pa ps.length ps) (h' : Sc.Bytes wq a ps.length ps) => Same25_all v0 v1 v2 v3 v4 v0 v1 v2 v3 v4 pa a pc c ps ps x x wq h h' l1 l1)
  rw [Sc.same_refl] at HE1 HE2
  clear hs hE hck hbl hT hTl hpb hPa
  go_enter Try.func5, Try.ntmps5
  go_wp2_with fail
  refine (awake25_any _).mono ?_
  rintro e w3 ⟨rfl, hbx⟩
  have HSA1 := Lib.hid (HSA0.out.below hbx)
  have HPA1 := Lib.hid (HPA0.out.below hbx)
  have HB1 := Lib.hid (bchain HB0.out hbx)
  have HX1 := Lib.hid hbx
  clear hbx p0 p1 p2 p3 p4 p5 p6
  obtain ⟨p0, p1, p2, p3, p4, p5, p6⟩ := HSA1.out.seven
  clear hw2 hW
  go_wp2_with fail
  refine (small_any v0 v1 v2 v3 v4 a c ps.length x _ true HFA.out).mono ?_
  rintro e w4 ⟨rfl, hbx⟩
  have HSA2 := Lib.hid (HSA1.out.below hbx)
  have HPA2 := Lib.hid (HPA1.out.below hbx)
  have HB2 := Lib.hid (bchain HB1.out hbx)
  have HX2 := Lib.hid hbx
  clear hbx p0 p1 p2 p3 p4 p5 p6
  obtain ⟨p0, p1, p2, p3, p4, p5, p6⟩ := HSA2.out.seven
  go_wp2_with fail
  refine (HP1.out _ HPA2.out).mono ?_
  rintro e w5 ⟨rfl, hbx⟩
  have HSA3 := Lib.hid (HSA2.out.below hbx)
  have HPA3 := Lib.hid (HPA2.out.below hbx)
  have HB3 := Lib.hid (bchain HB2.out hbx)
  have HX3 := Lib.hid hbx
  clear hbx p0 p1 p2 p3 p4 p5 p6
  obtain ⟨p0, p1, p2, p3, p4, p5, p6⟩ := HSA3.out.seven
  go_wp2_with fail
  refine (HPA.out _).mono ?_
  rintro e w6 ⟨pa, pc, rfl, hpb, hbx⟩
  obtain ⟨Y, hY⟩ : ∃ Y, w6.heap.size = Y := ⟨_, rfl⟩
  obtain ⟨w7, hw7⟩ : ∃ w7, w6.alloc (.cells #[.int .i64 v0, .int .i64 v1, .int .i64 v2, .int .i64 v3, .int .i64 v4, .slice pa ps.length pc, .string x] 25) = w7 := ⟨_, rfl⟩
  have hb7 : Below w6.heap.size w6 w7 := by rw [← hw7]; exact (Below.refl _ _).alloc (Nat.le_refl _) _
  have s7 := Sc.seven_of w6 v0 v1 v2 v3 v4 (.slice pa ps.length pc) x 25
  rw [hw7, hY] at s7
  have HPN := Lib.hid (hpb.below hb7)
  have HSN := Lib.hid s7
  have HSA7 := Lib.hid ((HSA3.out.below hbx).below hb7)
  have HPA7 := Lib.hid ((HPA3.out.below hbx).below hb7)
  have HB7 := Lib.hid (bchain (bchain HB3.out hbx) hb7)
  clear hbx hpb s7 hb7 p0 p1 p2 p3 p4 p5 p6
  obtain ⟨p0, p1, p2, p3, p4, p5, p6⟩ := HSA7.out.seven
  obtain ⟨q0, q1, q2, q3, q4, q5, q6⟩ := HSN.out.seven
  go_wp2_with fail
  refine (HE1.out _ pa pc HPN.out HPA7.out).mono ?_
  rintro e w8 ⟨rfl, hbx⟩
  clear hw7 hY q0 q1 q2 q3 q4 q5 q6 p0 p1 p2 p3 p4 p5 p6
  have HPN8 := Lib.hid (HPN.out.below hbx)
  obtain ⟨q0, q1, q2, q3, q4, q5, q6⟩ := (HSN.out.below hbx).seven
  have HSA8 := Lib.hid (HSA7.out.below hbx)
  have HPA8 := Lib.hid (HPA7.out.below hbx)
  have HB8 := Lib.hid (bchain HB7.out hbx)
  obtain ⟨p0, p1, p2, p3, p4, p5, p6⟩ := HSA8.out.seven
  clear hbx
  go_wp2_with fail
  refine (HE2.out _ pa pc HPN8.out HPA8.out).mono ?_
  rintro e w9 ⟨rfl, hbx⟩
  have HB9 := Lib.hid (bchain HB8.out hbx)
  have HSA9 := Lib.hid (HSA8.out.below hbx)
  clear hbx q0 q1 q2 q3 q4 q5 q6 p0 p1 p2 p3 p4 p5 p6
  obtain ⟨p0, p1, p2, p3, p4, p5, p6⟩ := HSA9.out.seven
  cases hpt : Sc.parse t.data.toList with
  | err n k =>
    have hpe := Sc.parse_err _ _ _ hpt
    have hk : (k != 0) = true := by rw [bne_iff_ne]; omega
    have hPe := fun wq => Parse_err n k t wq htl hpt
    clear hpe hpt
    go_wp2_with fail
    refine (hPe _).mono ?_
    rintro e w20 ⟨rfl, hb20⟩
    have HB20 := Lib.hid (bchain HB9.out hb20)
    clear hb20 hPe p0 p1 p2 p3 p4 p5 p6
    go_wp2
    go_ret
    exact ⟨rfl, HB20.out.alloc HB20.out.size _⟩
  | ok q =>
    obtain ⟨q0, q1, q2, q3, q4, qp, qx⟩ := q
    obtain ⟨X, rfl⟩ : ∃ X : ByteArray, qx = X.data.toList := ⟨⟨qx.toArray⟩, by simp⟩
    obtain ⟨hq1, hq2, hq3⟩ := Sc.of_parse _ _ hpt
    obtain ⟨_, g1, g2, _⟩ := Sc.check_parts _ hq1
    simp only [] at g1 g2
    rw [Fx.size_toList] at g2 hq3
    have hPo := fun wq => Parse_ok q0 q1 q2 q3 q4 qp X t wq htl hpt
    have HPR := Lib.hid (fun wq pa pc (h : Sc.Bytes wq pa qp.length qp) => Print_ok q0 q1 q2 q3 q4 pa pc qp X t wq h (by omega) (by omega) hq1 hq2.symm hq3)
    have ht1 : (t.toList == t.toList) = true := by simp
    clear hpt hq1 hq2 hq3
    go_wp2_with fail
    refine (hPo _).mono ?_
    rintro e w20 ⟨pa, pc, rfl, hpb, hb20⟩
    have HB20 := Lib.hid (bchain HB9.out hb20)
    have HPB := Lib.hid hpb
    clear hb20 hPo hpb p0 p1 p2 p3 p4 p5 p6
    go_wp2_with fail
    refine (HPR.out _ pa pc (HPB.out.below ((Below.refl _ _).alloc (Nat.le_refl _) _))).mono ?_
    rintro e w21 ⟨rfl, hb21⟩
    have HB21 : Hid (Below w.heap.size w w21) := bchain (HB20.out.alloc HB20.out.size _) hb21
    clear hb21
    go_wp2
    go_ret
    exact ⟨rfl, HB21.out⟩
end Go.Proofs.Ytbaendhagojadaa
