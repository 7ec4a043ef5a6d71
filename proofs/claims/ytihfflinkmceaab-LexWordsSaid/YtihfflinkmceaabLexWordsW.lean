/-
  The walk of LexWords.
-/
import Derived.Test.YtihfflinkmceaabLexTold
import Derived.Test.YtihfflinkmceaabLexApartW
import Derived.Test.YtihfflinkmceaabLexBlanksP
import Derived.Deep.RegionHeld3
import Derived.IntWalk
namespace Go.Proofs.Ytihfflinkmceaab
open Go.RowKit Go.Sort
namespace Lx
/-- what Words comes to, in one form -/
theorem WordsPost.form {s : List UInt8} {w w' : World} {e : Ending} (h : WordsPost (lex s) w e w') : ∃ a c, e = .returned (.tuple #[.slice a (lex s).1.length c, .int .i64 ((lex s).2.1 : Int), .int .i64 (lex s).2.2]) ∧ Row w' (.slice a (lex s).1.length c) (lex s).1 ∧ (lex s).1.length ≤ c ∧ c ≤ maxLen ∧ ((a = none ∧ c = 0) ∨ ∃ g, a = some ⟨g, 0, none⟩) ∧ Below w.heap.size w w' := by
  obtain ⟨hb, ⟨hc, v, he, ho⟩ | ⟨hc, he⟩⟩ := h
  · have hr := row_own ho rfl
    rcases ho.2 with ⟨rfl, hz⟩ | ⟨g, cap, cur, rfl, _, _, h1, h2, _⟩
    · refine ⟨none, 0, ?_, ?_, by omega, by unfold maxLen; omega, .inl ⟨rfl, rfl⟩, hb⟩
      · rw [he, hc, lex_zero s hc, hz]; rfl
      · rw [hz]; exact hr
    · refine ⟨_, cap, ?_, hr, h1, h2, .inr ⟨g, rfl⟩, hb⟩
      rw [he, hc, lex_zero s hc]; rfl
  · refine ⟨none, 0, ?_, .inl ⟨?_, lex_nil s hc⟩, by rw [lex_nil s hc]; simp, by unfold maxLen; omega, .inl ⟨rfl, rfl⟩, hb⟩
    · rw [he, lex_nil s hc]; rfl
    · rw [lex_nil s hc]; rfl
theorem few (s : List UInt8) : (lex s).1.length ≤ 4096 := by
  by_cases hc : (lex s).2.2 = 0
  · have hz := lex_zero s hc
    exact lex_few s (lex s).1 (Prod.ext rfl (Prod.ext hz hc))
  · rw [lex_nil s hc]; simp
theorem Row.take {w : World} {a : Option Addr} {n c : Nat} {l : List PTok} (h : Row w (.slice a n c) l) (k : Nat) (hk : k ≤ l.length) (hc : a = none → c = 0) : Row w (.slice a k c) (l.take k) := by
  rcases h with ⟨h1, rfl⟩ | ⟨g, cap, h1, h2⟩
  · cases h1
    obtain rfl : k = 0 := by simpa using hk
    exact .inl ⟨rfl, rfl⟩
  · cases h1
    refine .inr ⟨g, c, by rw [List.length_take, Nat.min_eq_left hk], fun j u hu => h2 j u ?_⟩
    have hp : flatT (l.take k) <+: flatT l := by
      refine ⟨flatT (l.drop k), ?_⟩
      have := congrArg flatT (List.take_append_drop k l)
      unfold flatT at this ⊢
      rw [List.flatMap_append] at this
      exact this
    obtain ⟨r, hr⟩ := hp
    rw [← hr]
    rw [List.getElem?_append_left (List.getElem?_eq_some_iff.1 hu).1]
    exact hu
theorem box_new (w : World) (s : ByteArray) (ty : TypeId) : (w.alloc (.cells #[.string s] ty)).cell? ⟨w.heap.size, 0, none⟩ = some (.string s) := by simp
theorem box_lt (w : World) (o : Obj) : w.heap.size < (w.alloc o).heap.size := by simp
end Lx
theorem told_big (s : ByteArray) (hs : s.size ≤ 9223372036854775807) (w : World) (xs : List Lx.PTok) (hxs : xs = (Lx.lex s.data.toList).1) (hlen : xs.length ≤ 4096) :
    Calls Try.prog 10 #[.func (.func 24) #[] #[.pointer (some ⟨w.heap.size, 0, none⟩)], .int .i64 1048576] (w.alloc (.cells #[.string s] 9)) fun e W' => ∃ v, e = .returned v ∧ Lx.Row W' v xs ∧ Below w.heap.size w W' := by
  refine (told_any s hs 1048576 (by omega) w.heap.size (w.alloc (.cells #[.string s] 9)) (Lx.box_new _ _ _) (Lx.box_lt _ _) xs hxs hlen).mono ?_
  rintro e W' ⟨v, rfl, ho, hb⟩
  rw [List.take_of_length_le (by omega)] at ho
  exact ⟨v, rfl, Lx.row_own ho rfl, ((Below.refl _ w).alloc (Nat.le_refl _) _).trans (hb.mono (by simp))⟩
theorem told_few (s : ByteArray) (hs : s.size ≤ 9223372036854775807) (m : Nat) (hm : m ≤ 1048576) (w : World) (xs : List Lx.PTok) (hxs : xs = (Lx.lex s.data.toList).1) (hlen : xs.length ≤ 4096) :
    Calls Try.prog 10 #[.func (.func 24) #[] #[.pointer (some ⟨w.heap.size, 0, none⟩)], .int .i64 (m : Int)] (w.alloc (.cells #[.string s] 9)) fun e W' => ∃ v, e = .returned v ∧ Lx.Row W' v (xs.take m) ∧ Below w.heap.size w W' := by
  refine (told_any s hs m hm w.heap.size (w.alloc (.cells #[.string s] 9)) (Lx.box_new _ _ _) (Lx.box_lt _ _) xs hxs hlen).mono ?_
  rintro e W' ⟨v, rfl, ho, hb⟩
  exact ⟨v, rfl, Lx.row_own ho rfl, ((Below.refl _ w).alloc (Nat.le_refl _) _).trans (hb.mono (by simp))⟩
set_option maxRecDepth 100000 in
set_option maxHeartbeats 8000000 in
theorem LexWords_walk (s : ByteArray) (k1 : Int) (w : World) (hs : s.size ≤ 9223372036854775807) (hk1 : (Lit.int .u8 k1).wf = true) :
    Calls Try.prog 3 #[.string s, .int .u8 k1] w fun e w' => e = .returned (.bool true) ∧ Below w.heap.size w w' := by
  have b1 : 0 ≤ k1 ∧ k1 ≤ 255 := by simpa [Lit.wf, IntKind.min, IntKind.max, IntKind.signed, IntKind.bits] using hk1
  clear hk1
  obtain ⟨m, rfl⟩ : ∃ m : Nat, k1 = (m : Int) := ⟨k1.toNat, by omega⟩
  by_cases hbig : 100000 < s.size
  · have hbi : 100000 < (s.size : Int) := by omega
    go_enter Try.func3, Try.ntmps3
    go_wp2_with fail
    refine (awake_any _).mono ?_
    rintro e w2 ⟨rfl, hb2⟩
    go_wp2_with fail
    refine (awake_any _).mono ?_
    rintro e w3 ⟨rfl, hb3⟩
    go_wp2
    go_ret
    exact ⟨rfl, bchain hb2 hb3⟩
  have hbi : ¬ 100000 < (s.size : Int) := by omega
  obtain ⟨xs, hxs⟩ : ∃ xs, xs = (Lx.lex s.data.toList).1 := ⟨_, rfl⟩
  have hfew : xs.length ≤ 4096 := by rw [hxs]; exact Lx.few _
  obtain ⟨P, hP⟩ : ∃ P : Int, ((Lx.lex s.data.toList).2.1 : Int) = P := ⟨_, rfl⟩
  obtain ⟨C, hC⟩ : ∃ C : Int, (Lx.lex s.data.toList).2.2 = C := ⟨_, rfl⟩
  have hWx := fun wq => (Words_any s wq hs).mono fun e w' h => Lx.WordsPost.form h
  have hWy := fun wq => (WordsR_any s wq hs).mono fun e w' h => Lx.WordsPost.form h
  simp only [hP, hC, ← hxs] at hWx hWy
  obtain ⟨T, hT⟩ : ∃ T, xs.take m = T := ⟨_, rfl⟩
  have HT1 := Lib.hid (fun wq => told_big s hs wq xs hxs hfew)
  have HT2 := fun wq => told_few s hs m (by omega) wq xs hxs hfew
  have hwm : IntKind.i64.wrap (m : Int) = (m : Int) := by rw [IntKind.wrap_i64]; omega
  simp only [hT] at HT2
  have HT3 := HT2
  rw [← hwm] at HT3
  replace HT2 := Lib.hid HT2
  replace HT3 := Lib.hid HT3
  have HWX := Lib.hid hWx
  have HWY := Lib.hid hWy
  clear hWx hWy hxs hP hC
  go_enter Try.func3, Try.ntmps3
  go_wp2_with fail
  refine (awake_any _).mono ?_
  rintro e w2 ⟨rfl, hb2⟩
  go_wp2_with fail
  refine (HWX.out _).mono ?_
  rintro e w3 ⟨ax, cx, rfl, hrx, _, _, _, hb3⟩
  go_wp2_with fail
  refine (HWY.out _).mono ?_
  rintro e w4 ⟨a, c, rfl, hry, hyc, hym, hya, hb4⟩
  have HX := Lib.hid (hrx.below hb4)
  have HY := Lib.hid hry
  have HB := Lib.hid (bchain (bchain hb2 hb3) hb4)
  have HMX := Lib.hid hym
  clear hb2 hb3 hb4 hym hrx
  have hfi : (xs.length : Int) ≤ 4096 := by omega
  have hTl : T.length ≤ 1000000 := by rw [← hT]; simp; omega
  by_cases hmx : m < xs.length
  · have hmi : (m : Int) < (xs.length : Int) := by omega
    have hmw : IntKind.i64.wrap (m : Int) < (xs.length : Int) := by rw [hwm]; omega
    have hmw0 : 0 ≤ IntKind.i64.wrap (m : Int) := by rw [hwm]; omega
    have hmwc : IntKind.i64.wrap (m : Int) ≤ (c : Int) := by rw [hwm]; omega
    have hmwt : (IntKind.i64.wrap (m : Int)).toNat = m := by rw [hwm]; rfl
    have hc0 : c ≠ 0 := by omega
    have hmc : (m : Int) ≤ (c : Int) := by omega
    rcases hya with ⟨rfl, rfl⟩ | ⟨g, rfl⟩
    · omega
    · have HYT := Lib.hid (hry.take m (by omega) (by simp))
      rw [hT] at HYT
      clear hry hT
      go_wp2_with fail
      go_region_held3 (fun w' => Hid (Below w4.heap.size w4 w')) (first | assumption | exact Lib.hid ((Below.refl _ _).drew) | exact Lib.hid (Lx.below_al (Hid.out (by assumption)) _))
        (first
          | (go_at_call 11; refine (All_any s _).mono ?_; rintro e wA ⟨rfl, rfl⟩)
          | (go_at_call 10; with_reducible refine (HT1.out _).mono ?_; rintro e w5 ⟨v5, rfl, hr5, hb5⟩; have hS5 : Hid (Below w4.heap.size w4 w5) := Lib.hid (bchain (Hid.out (by assumption)) hb5))
          | (go_at_call 10; (with_reducible first | refine (HT2.out _).mono ?_ | refine (HT3.out _).mono ?_); rintro e w6 ⟨v6, rfl, hr6, hb6⟩; have hS6 : Hid (Below w4.heap.size w4 w6) := Lib.hid (bchain (Hid.out (by assumption)) hb6))
          | (go_at_call 9; with_reducible refine (Same_any _ _ _ xs (HX.out.below (Hid.out (by assumption))) (HY.out.below (Hid.out (by assumption))) (by omega)).mono ?_; rintro e w7 ⟨rfl, hb7⟩; have hS7 : Hid (Below w4.heap.size w4 w7) := Lib.hid (bchain (Hid.out (by assumption)) hb7))
          | (go_at_call 9; with_reducible refine (Same_any _ _ _ xs hr5 (HY.out.below (Hid.out (by assumption))) (by omega)).mono ?_; rintro e w8 ⟨rfl, hb8⟩; have hS8 : Hid (Below w4.heap.size w4 w8) := Lib.hid (bchain (Hid.out (by assumption)) hb8))
          | (go_at_call 9; refine (Same_any _ _ _ T hr6 (HYT.out.below (Hid.out (by assumption))) hTl).mono ?_; rintro e w9 ⟨rfl, hb9⟩; have hS9 : Hid (Below w4.heap.size w4 w9) := Lib.hid (bchain (Hid.out (by assumption)) hb9)) | fail)
      all_goals
        go_wp2
        go_ret
        exact ⟨rfl, bchain HB.out hS9.out⟩
  · have hmi : ¬ (m : Int) < (xs.length : Int) := by omega
    have hmw : ¬ IntKind.i64.wrap (m : Int) < (xs.length : Int) := by rw [hwm]; omega
    obtain rfl : xs = T := by rw [← hT]; exact (List.take_of_length_le (by omega)).symm
    have HYT := Lib.hid hry
    have hlc : (xs.length : Int) ≤ (c : Int) := by omega
    clear hT
    rcases hya with ⟨rfl, hc0⟩ | ⟨g, rfl⟩
    · clear hry hc0
      go_wp2_with fail
      go_region_held3 (fun w' => Hid (Below w4.heap.size w4 w')) (first | assumption | exact Lib.hid ((Below.refl _ _).drew) | exact Lib.hid (Lx.below_al (Hid.out (by assumption)) _))
        (first
          | (go_at_call 11; refine (All_any s _).mono ?_; rintro e wA ⟨rfl, rfl⟩)
          | (go_at_call 10; with_reducible refine (HT1.out _).mono ?_; rintro e w5 ⟨v5, rfl, hr5, hb5⟩; have hS5 : Hid (Below w4.heap.size w4 w5) := Lib.hid (bchain (Hid.out (by assumption)) hb5))
          | (go_at_call 10; (with_reducible first | refine (HT2.out _).mono ?_ | refine (HT3.out _).mono ?_); rintro e w6 ⟨v6, rfl, hr6, hb6⟩; have hS6 : Hid (Below w4.heap.size w4 w6) := Lib.hid (bchain (Hid.out (by assumption)) hb6))
          | (go_at_call 9; with_reducible refine (Same_any _ _ _ xs (HX.out.below (Hid.out (by assumption))) (HY.out.below (Hid.out (by assumption))) (by omega)).mono ?_; rintro e w7 ⟨rfl, hb7⟩; have hS7 : Hid (Below w4.heap.size w4 w7) := Lib.hid (bchain (Hid.out (by assumption)) hb7))
          | (go_at_call 9; with_reducible refine (Same_any _ _ _ xs hr5 (HY.out.below (Hid.out (by assumption))) (by omega)).mono ?_; rintro e w8 ⟨rfl, hb8⟩; have hS8 : Hid (Below w4.heap.size w4 w8) := Lib.hid (bchain (Hid.out (by assumption)) hb8))
          | (go_at_call 9; refine (Same_any _ _ _ xs hr6 (HYT.out.below (Hid.out (by assumption))) hTl).mono ?_; rintro e w9 ⟨rfl, hb9⟩; have hS9 : Hid (Below w4.heap.size w4 w9) := Lib.hid (bchain (Hid.out (by assumption)) hb9)) | fail)
      all_goals
        go_wp2
        go_ret
        exact ⟨rfl, bchain HB.out hS9.out⟩
    · clear hry
      go_wp2_with fail
      go_region_held3 (fun w' => Hid (Below w4.heap.size w4 w')) (first | assumption | exact Lib.hid ((Below.refl _ _).drew) | exact Lib.hid (Lx.below_al (Hid.out (by assumption)) _))
        (first
          | (go_at_call 11; refine (All_any s _).mono ?_; rintro e wA ⟨rfl, rfl⟩)
          | (go_at_call 10; with_reducible refine (HT1.out _).mono ?_; rintro e w5 ⟨v5, rfl, hr5, hb5⟩; have hS5 : Hid (Below w4.heap.size w4 w5) := Lib.hid (bchain (Hid.out (by assumption)) hb5))
          | (go_at_call 10; (with_reducible first | refine (HT2.out _).mono ?_ | refine (HT3.out _).mono ?_); rintro e w6 ⟨v6, rfl, hr6, hb6⟩; have hS6 : Hid (Below w4.heap.size w4 w6) := Lib.hid (bchain (Hid.out (by assumption)) hb6))
          | (go_at_call 9; with_reducible refine (Same_any _ _ _ xs (HX.out.below (Hid.out (by assumption))) (HY.out.below (Hid.out (by assumption))) (by omega)).mono ?_; rintro e w7 ⟨rfl, hb7⟩; have hS7 : Hid (Below w4.heap.size w4 w7) := Lib.hid (bchain (Hid.out (by assumption)) hb7))
          | (go_at_call 9; with_reducible refine (Same_any _ _ _ xs hr5 (HY.out.below (Hid.out (by assumption))) (by omega)).mono ?_; rintro e w8 ⟨rfl, hb8⟩; have hS8 : Hid (Below w4.heap.size w4 w8) := Lib.hid (bchain (Hid.out (by assumption)) hb8))
          | (go_at_call 9; refine (Same_any _ _ _ xs hr6 (HYT.out.below (Hid.out (by assumption))) hTl).mono ?_; rintro e w9 ⟨rfl, hb9⟩; have hS9 : Hid (Below w4.heap.size w4 w9) := Lib.hid (bchain (Hid.out (by assumption)) hb9)) | fail)
      all_goals
        go_wp2
        go_ret
        exact ⟨rfl, bchain HB.out hS9.out⟩
end Go.Proofs.Ytihfflinkmceaab
