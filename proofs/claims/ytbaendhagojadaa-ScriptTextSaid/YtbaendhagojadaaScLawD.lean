/-
  The walk of ScriptText.
-/
import Derived.Test.YtbaendhagojadaaScLawC
namespace Go.Proofs.Ytbaendhagojadaa
open Go.RowKit Go.Sort
theorem Sc.ofList (l : List UInt8) : ∃ T : ByteArray, T.data.toList = l := ⟨⟨l.toArray⟩, by simp⟩
set_option maxRecDepth 100000 in
set_option maxHeartbeats 8000000 in
theorem ScriptText_walk (v0 v1 v2 v3 v4 : Int) (a : Option Addr) (c : Nat) (ps : List UInt8) (x : ByteArray) (t : ByteArray) (w : World) (ha : Sc.Bytes w a ps.length ps) (_ht : t.size ≤ maxLen) :
    Calls Try.prog 6 #[.agg #[.int .i64 v0, .int .i64 v1, .int .i64 v2, .int .i64 v3, .int .i64 v4, .slice a ps.length c, .string x], .string t] w fun e w' => e = .returned (.bool true) ∧ Below w.heap.size w w' := by
  obtain ⟨W, hW⟩ : ∃ W, w.heap.size = W := ⟨_, rfl⟩
  obtain ⟨w2, hw2⟩ : ∃ w2, w.alloc (.cells #[.int .i64 v0, .int .i64 v1, .int .i64 v2, .int .i64 v3, .int .i64 v4, .slice a ps.length c, .string x] 25) = w2 := ⟨_, rfl⟩
  have hb2 : Below w.heap.size w w2 := by rw [← hw2]; exact (Below.refl _ _).alloc (Nat.le_refl _) _
  have s1 := Sc.seven_of w v0 v1 v2 v3 v4 (.slice a ps.length c) x 25
  rw [hw2, hW] at s1
  have HSA0 := Lib.hid s1
  have HPA0 : Hid (Sc.Bytes w2 a ps.length ps) := ha.below hb2
  have HB0 := Lib.hid hb2
  have HWW := Lib.hid hW
  clear s1 hb2
  obtain ⟨p0, p1, p2, p3, p4, p5, p6⟩ := HSA0.out.seven
  obtain ⟨fa, hfa⟩ : ∃ fa, (decide (ps.length ≤ 2000) && decide (x.size ≤ 40000)) = fa := ⟨_, rfl⟩
  have HFA := Lib.hid hfa
  clear hfa
  cases fa
  case false =>
    go_enter Try.func6, Try.ntmps6
    go_wp2_with fail
    refine (awake25_any _).mono ?_
    rintro e w3 ⟨rfl, hbx⟩
    have HSA1 := Lib.hid (HSA0.out.below hbx)
    have HPA1 := Lib.hid (HPA0.out.below hbx)
    have HB1 := Lib.hid (bchain HB0.out hbx)
    clear hbx p0 p1 p2 p3 p4 p5 p6
    obtain ⟨p0, p1, p2, p3, p4, p5, p6⟩ := HSA1.out.seven
    clear hw2 hW
    go_wp2_with fail
    refine (small_any v0 v1 v2 v3 v4 a c ps.length x _ false HFA.out).mono ?_
    rintro e w4 ⟨rfl, hbx⟩
    have HSA2 := Lib.hid (HSA1.out.below hbx)
    have HPA2 := Lib.hid (HPA1.out.below hbx)
    have HB2 := Lib.hid (bchain HB1.out hbx)
    clear hbx p0 p1 p2 p3 p4 p5 p6
    obtain ⟨p0, p1, p2, p3, p4, p5, p6⟩ := HSA2.out.seven
    go_wp2_with fail
    refine (awake25_any _).mono ?_
    rintro e w9 ⟨rfl, hb9⟩
    go_wp2
    go_ret
    exact ⟨rfl, bchain HB2.out hb9⟩
  by_cases hbig : 16384 < t.size
  case pos =>
    have hbigi : 16384 < (t.size : Int) := by omega
    go_enter Try.func6, Try.ntmps6
    go_wp2_with fail
    refine (awake25_any _).mono ?_
    rintro e w3 ⟨rfl, hbx⟩
    have HSA1 := Lib.hid (HSA0.out.below hbx)
    have HPA1 := Lib.hid (HPA0.out.below hbx)
    have HB1 := Lib.hid (bchain HB0.out hbx)
    clear hbx p0 p1 p2 p3 p4 p5 p6
    obtain ⟨p0, p1, p2, p3, p4, p5, p6⟩ := HSA1.out.seven
    clear hw2 hW
    go_wp2_with fail
    refine (small_any v0 v1 v2 v3 v4 a c ps.length x _ true HFA.out).mono ?_
    rintro e w4 ⟨rfl, hbx⟩
    have HSA2 := Lib.hid (HSA1.out.below hbx)
    have HPA2 := Lib.hid (HPA1.out.below hbx)
    have HB2 := Lib.hid (bchain HB1.out hbx)
    clear hbx p0 p1 p2 p3 p4 p5 p6
    obtain ⟨p0, p1, p2, p3, p4, p5, p6⟩ := HSA2.out.seven
    go_wp2_with fail
    refine (awake25_any _).mono ?_
    rintro e w9 ⟨rfl, hb9⟩
    go_wp2
    go_ret
    exact ⟨rfl, bchain HB2.out hb9⟩
  have hbigi : ¬ 16384 < (t.size : Int) := by omega
  have htl : t.size ≤ 16384 := by omega
  have hA : ps.length ≤ 2000 ∧ x.size ≤ 40000 := by have := HFA.out; simpa using this
  have l1 : ps.length ≤ 1000000 := by omega
  have l2 : x.size ≤ 1000000 := by omega
  clear hA
  obtain ⟨s, hs⟩ : ∃ s : Sc.Scr, (⟨v0, v1, v2, v3, v4, ps, x.data.toList⟩ : Sc.Scr) = s := ⟨_, rfl⟩
  have HC1 := Lib.hid (fun wq (h : Sc.Bytes wq a ps.length ps) => Check_any v0 v1 v2 v3 v4 a c ps x wq h l1 l2)
  rw [hs] at HC1
  rcases Sc.chk_two s with ⟨hce, hck⟩ | ⟨hce, hck⟩
  case inl =>
    rw [hce] at HC1
    clear hs hce hck
    go_enter Try.func6, Try.ntmps6
    go_wp2_with fail
    refine (awake25_any _).mono ?_
    rintro e w3 ⟨rfl, hbx⟩
    have HSA1 := Lib.hid (HSA0.out.below hbx)
    have HPA1 := Lib.hid (HPA0.out.below hbx)
    have HB1 := Lib.hid (bchain HB0.out hbx)
    clear hbx p0 p1 p2 p3 p4 p5 p6
    obtain ⟨p0, p1, p2, p3, p4, p5, p6⟩ := HSA1.out.seven
    clear hw2 hW
    go_wp2_with fail
    refine (small_any v0 v1 v2 v3 v4 a c ps.length x _ true HFA.out).mono ?_
    rintro e w4 ⟨rfl, hbx⟩
    have HSA2 := Lib.hid (HSA1.out.below hbx)
    have HPA2 := Lib.hid (HPA1.out.below hbx)
    have HB2 := Lib.hid (bchain HB1.out hbx)
    clear hbx p0 p1 p2 p3 p4 p5 p6
    obtain ⟨p0, p1, p2, p3, p4, p5, p6⟩ := HSA2.out.seven
    go_wp2_with fail
    refine (HC1.out _ HPA2.out).mono ?_
    rintro e w5 ⟨rfl, hbx⟩
    have HSA3 := Lib.hid (HSA2.out.below hbx)
    have HPA3 := Lib.hid (HPA2.out.below hbx)
    have HB3 := Lib.hid (bchain HB2.out hbx)
    clear hbx p0 p1 p2 p3 p4 p5 p6
    obtain ⟨p0, p1, p2, p3, p4, p5, p6⟩ := HSA3.out.seven
    go_wp2_with fail
    refine (awake25_any _).mono ?_
    rintro e w9 ⟨rfl, hb9⟩
    go_wp2
    go_ret
    exact ⟨rfl, bchain HB3.out hb9⟩
  rw [hce] at HC1
  have hck0 : Sc.check ⟨v0, v1, v2, v3, v4, ps, (⟨#[]⟩ : ByteArray).data.toList⟩ = true := by
    have := Sc.check_text s [] hck (by simp)
    rw [← hs] at this
    exact this
  have hckt : Sc.check ⟨v0, v1, v2, v3, v4, ps, t.data.toList⟩ = true := by
    have := Sc.check_text s t.data.toList hck (by rw [Fx.size_toList]; exact htl)
    rw [← hs] at this
    exact this
  have hbt : Sc.body ⟨v0, v1, v2, v3, v4, ps, (⟨#[]⟩ : ByteArray).data.toList⟩ ++ t.data.toList = Sc.body ⟨v0, v1, v2, v3, v4, ps, t.data.toList⟩ := by
    have := Sc.body_text s t.data.toList
    rw [← hs] at this
    exact this
  have hbl := Sc.body_len _ hck0
  have hbl0 : (Sc.body ⟨v0, v1, v2, v3, v4, ps, (⟨#[]⟩ : ByteArray).data.toList⟩).length ≤ 8964 := hbl
  obtain ⟨T, hT⟩ : ∃ T : ByteArray, T.data.toList = Sc.body ⟨v0, v1, v2, v3, v4, ps, (⟨#[]⟩ : ByteArray).data.toList⟩ := Sc.ofList _
  have hTl : T.size ≤ 8964 := by rw [← Fx.size_toList, hT]; exact hbl0
  obtain ⟨Y, hY⟩ : ∃ Y : ByteArray, T ++ t = Y := ⟨_, rfl⟩
  have hYs : Y.size = T.size + t.size := by rw [← hY]; simp [ByteArray.size_append]
  have hYl : Y.data.toList = Sc.body ⟨v0, v1, v2, v3, v4, ps, t.data.toList⟩ := by rw [← hY, ← hbt, ← hT]; simp
  have HPR := Lib.hid (fun wq (h : Sc.Bytes wq a ps.length ps) => Print_ok v0 v1 v2 v3 v4 a c ps ⟨#[]⟩ T wq h l1 (by decide) hck0 hT (by omega))
  have c1 : ¬ 9223372036854775807 < T.size + t.size := by omega
  have HYS := Lib.hid hYs
  clear hs hce hck hck0 hbt hbl hbl0 hT hYs
  by_cases hlong : 20000 < T.size + t.size
  case pos =>
    have hlongi : 20000 < (T.size : Int) + (t.size : Int) := by omega
    have hp : Sc.parse Y.data.toList = .err 0 3 := by unfold Sc.parse; rw [if_pos (by rw [Fx.size_toList]; have := HYS.out; omega)]
    have HPA := Lib.hid (fun wq => Parse_err 0 3 Y wq (by have := HYS.out; omega) hp)
    clear hYl hp hckt hlong
    go_enter Try.func6, Try.ntmps6
    go_wp2_with fail
    refine (awake25_any _).mono ?_
    rintro e w3 ⟨rfl, hbx⟩
    have HSA1 := Lib.hid (HSA0.out.below hbx)
    have HPA1 := Lib.hid (HPA0.out.below hbx)
    have HB1 := Lib.hid (bchain HB0.out hbx)
    clear hbx p0 p1 p2 p3 p4 p5 p6
    obtain ⟨p0, p1, p2, p3, p4, p5, p6⟩ := HSA1.out.seven
    clear hw2 hW
    go_wp2_with fail
    refine (small_any v0 v1 v2 v3 v4 a c ps.length x _ true HFA.out).mono ?_
    rintro e w4 ⟨rfl, hbx⟩
    have HSA2 := Lib.hid (HSA1.out.below hbx)
    have HPA2 := Lib.hid (HPA1.out.below hbx)
    have HB2 := Lib.hid (bchain HB1.out hbx)
    clear hbx p0 p1 p2 p3 p4 p5 p6
    obtain ⟨p0, p1, p2, p3, p4, p5, p6⟩ := HSA2.out.seven
    go_wp2_with fail
    refine (HC1.out _ HPA2.out).mono ?_
    rintro e w5 ⟨rfl, hbx⟩
    have HSA3 := Lib.hid (HSA2.out.below hbx)
    have HPA3 := Lib.hid (HPA2.out.below hbx)
    have HB3 := Lib.hid (bchain HB2.out hbx)
    clear hbx p0 p1 p2 p3 p4 p5 p6
    obtain ⟨p0, p1, p2, p3, p4, p5, p6⟩ := HSA3.out.seven
    have zf := HSA3.out.fz
    obtain ⟨w6, hw6⟩ : ∃ w6, w5.setCell ⟨W, 6, none⟩ (.string ⟨#[]⟩) = w6 := ⟨_, rfl⟩
    have hs6 : Sc.St w6 W [v0, v1, v2, v3, v4] (.slice a ps.length c) ⟨#[]⟩ := by rw [← hw6]; exact HSA3.out.set6 ⟨#[]⟩
    have hk6 : Keep (· = W) w5 w6 := by rw [← hw6]; exact (Keep.refl (· = W) w5).setCell (B := W) rfl 6 _
    have hb6 : Below w.heap.size w w6 := by rw [← hw6]; exact HB3.out.setCell (p := ⟨W, 6, none⟩) (by rw [HWW.out]; exact Nat.le_refl _) _
    have hp6 : Sc.Bytes w6 a ps.length ps := ha.below hb6
    have HSA4 := Lib.hid hs6
    have HPA4 := Lib.hid hp6
    have HB4 := Lib.hid hb6
    clear hs6 hk6 hp6 hb6
    obtain ⟨g0, g1, g2, g3, g4, g5, g6⟩ := HSA4.out.seven
    go_wp2_with fail
    refine (HPR.out _ HPA4.out).mono ?_
    rintro e w7 ⟨rfl, hbx⟩
    have HSA5 := Lib.hid (HSA4.out.below hbx)
    have HPA5 := Lib.hid (HPA4.out.below hbx)
    have HB5 := Lib.hid (bchain HB4.out hbx)
    clear hw6 hbx p0 p1 p2 p3 p4 p5 p6 g0 g1 g2 g3 g4 g5 g6 zf
    go_wp2_with fail
    refine (HPA.out _).mono ?_
    rintro e w8 ⟨rfl, hbx⟩
    have HB6 := Lib.hid (bchain HB5.out hbx)
    clear hbx
    go_wp2
    go_ret
    exact ⟨rfl, HB6.out.alloc HB6.out.size _⟩
  have hlongi : ¬ 20000 < (T.size : Int) + (t.size : Int) := by omega
  have hpo := Sc.parse_body _ hckt (by rw [← hYl, Fx.size_toList]; have := HYS.out; omega)
  rw [← hYl] at hpo
  have HPA := Lib.hid (fun wq => Parse_ok v0 v1 v2 v3 v4 ps t Y wq (by have := HYS.out; omega) hpo)
  have HE1 := Lib.hid (fun wq pa pc (h : Sc.Bytes wq pa ps.length ps) (h' : Sc.Bytes wq a ps.length ps) => Same_any v0 v1 v2 v3 v4 v0 v1 v2 v3 v4 pa a pc c ps ps t t wq h h' l1 l1)
  rw [Sc.same_refl] at HE1
  clear hYl hpo hckt hlong
  go_enter Try.func6, Try.ntmps6
  go_wp2_with fail
  refine (awake25_any _).mono ?_
  rintro e w3 ⟨rfl, hbx⟩
  have HSA1 := Lib.hid (HSA0.out.below hbx)
  have HPA1 := Lib.hid (HPA0.out.below hbx)
  have HB1 := Lib.hid (bchain HB0.out hbx)
  clear hbx p0 p1 p2 p3 p4 p5 p6
  obtain ⟨p0, p1, p2, p3, p4, p5, p6⟩ := HSA1.out.seven
  clear hw2 hW
  go_wp2_with fail
  refine (small_any v0 v1 v2 v3 v4 a c ps.length x _ true HFA.out).mono ?_
  rintro e w4 ⟨rfl, hbx⟩
  have HSA2 := Lib.hid (HSA1.out.below hbx)
  have HPA2 := Lib.hid (HPA1.out.below hbx)
  have HB2 := Lib.hid (bchain HB1.out hbx)
  clear hbx p0 p1 p2 p3 p4 p5 p6
  obtain ⟨p0, p1, p2, p3, p4, p5, p6⟩ := HSA2.out.seven
  go_wp2_with fail
  refine (HC1.out _ HPA2.out).mono ?_
  rintro e w5 ⟨rfl, hbx⟩
  have HSA3 := Lib.hid (HSA2.out.below hbx)
  have HPA3 := Lib.hid (HPA2.out.below hbx)
  have HB3 := Lib.hid (bchain HB2.out hbx)
  clear hbx p0 p1 p2 p3 p4 p5 p6
  obtain ⟨p0, p1, p2, p3, p4, p5, p6⟩ := HSA3.out.seven
  have zf := HSA3.out.fz
  obtain ⟨w6, hw6⟩ : ∃ w6, w5.setCell ⟨W, 6, none⟩ (.string ⟨#[]⟩) = w6 := ⟨_, rfl⟩
  have hs6 : Sc.St w6 W [v0, v1, v2, v3, v4] (.slice a ps.length c) ⟨#[]⟩ := by rw [← hw6]; exact HSA3.out.set6 ⟨#[]⟩
  have hk6 : Keep (· = W) w5 w6 := by rw [← hw6]; exact (Keep.refl (· = W) w5).setCell (B := W) rfl 6 _
  have hb6 : Below w.heap.size w w6 := by rw [← hw6]; exact HB3.out.setCell (p := ⟨W, 6, none⟩) (by rw [HWW.out]; exact Nat.le_refl _) _
  have hp6 : Sc.Bytes w6 a ps.length ps := ha.below hb6
  have HSA4 := Lib.hid hs6
  have HPA4 := Lib.hid hp6
  have HB4 := Lib.hid hb6
  clear hs6 hk6 hp6 hb6
  obtain ⟨g0, g1, g2, g3, g4, g5, g6⟩ := HSA4.out.seven
  go_wp2_with fail
  refine (HPR.out _ HPA4.out).mono ?_
  rintro e w7 ⟨rfl, hbx⟩
  have HSA5 := Lib.hid (HSA4.out.below hbx)
  have HPA5 := Lib.hid (HPA4.out.below hbx)
  have HB5 := Lib.hid (bchain HB4.out hbx)
  clear hw6 hbx p0 p1 p2 p3 p4 p5 p6 g0 g1 g2 g3 g4 g5 g6 zf
  go_wp2_with fail
  refine (HPA.out _).mono ?_
  rintro e w8 ⟨pa, pc, rfl, hpb, hbx⟩
  obtain ⟨N, hN⟩ : ∃ N, w8.heap.size = N := ⟨_, rfl⟩
  obtain ⟨w9, hw9⟩ : ∃ w9, w8.alloc (.cells #[.int .i64 v0, .int .i64 v1, .int .i64 v2, .int .i64 v3, .int .i64 v4, .slice pa ps.length pc, .string t] 25) = w9 := ⟨_, rfl⟩
  have hb9 : Below w8.heap.size w8 w9 := by rw [← hw9]; exact (Below.refl _ _).alloc (Nat.le_refl _) _
  have s9 := Sc.seven_of w8 v0 v1 v2 v3 v4 (.slice pa ps.length pc) t 25
  rw [hw9, hN] at s9
  have hn9 : w9.heap.size = N + 1 := by rw [← hw9]; simp [hN]
  have hpn := hpb.below hb9
  have hsa := (HSA5.out.below hbx).below hb9
  have hpa := (HPA5.out.below hbx).below hb9
  have HB9 := Lib.hid (bchain (bchain HB5.out hbx) hb9)
  obtain ⟨p0, p1, p2, p3, p4, p5, p6⟩ := hsa.seven
  obtain ⟨w10, hw10⟩ : ∃ w10, w9.alloc (.cells #[.int .i64 v0, .int .i64 v1, .int .i64 v2, .int .i64 v3, .int .i64 v4, .slice a ps.length c, .string t] 25) = w10 := ⟨_, rfl⟩
  have hb10 : Below w9.heap.size w9 w10 := by rw [← hw10]; exact (Below.refl _ _).alloc (Nat.le_refl _) _
  obtain ⟨q0, q1, q2, q3, q4, q5, q6⟩ := (s9.below hb10).seven
  have s10 := Sc.seven_of w9 v0 v1 v2 v3 v4 (.slice a ps.length c) t 25
  rw [hw10, hn9] at s10
  obtain ⟨r0, r1, r2, r3, r4, r5, r6⟩ := s10.seven
  have HPN := Lib.hid (hpn.below hb10)
  have HPO := Lib.hid (hpa.below hb10)
  have HB10 := Lib.hid (bchain HB9.out hb10)
  clear hbx hpb s9 hb9 hpn hsa hpa hb10 s10
  go_wp2_with fail
  refine (HE1.out _ pa pc HPN.out HPO.out).mono ?_
  rintro e w11 ⟨rfl, hbx⟩
  go_wp2
  go_ret
  exact ⟨rfl, bchain HB10.out hbx⟩
end Go.Proofs.Ytbaendhagojadaa
