/-
  The walks of the laws FixTexts and FixBack.
-/
import Derived.Test.YtdiadoahcaoinaaFixBackPlain
namespace Go.Proofs.Ytdiadoahcaoinaa
open Go.RowKit

theorem FixTexts_of (a k : Int) (s t : ByteArray) (w : World) (hs : s.size ≤ 9223372036854775807)
    (HT1 : Hid (∀ w : World, Calls Try.prog 31 #[.int .i64 a] w fun e w' => e = .returned (.tuple #[.string t, .int .i64 k]) ∧ Below w.heap.size w w'))
    (HT2 : Hid (∀ w : World, Calls Try.prog 32 #[.int .i64 a] w fun e w' => e = .returned (.tuple #[.string t, .int .i64 k]) ∧ Below w.heap.size w w')) :
    Calls Try.prog 7 #[.int .i64 a, .string s] w fun e w' => e = .returned (.bool true) ∧ Below w.heap.size w w' := by
  go_enter Try.func7, Try.ntmps7
  go_wp2_with fail
  refine (HT1.out _).mono ?_; rintro e w1 ⟨rfl, hb1⟩
  go_wp2_with fail
  refine (HT2.out _).mono ?_; rintro e w2 ⟨rfl, hb2⟩
  go_wp2_with fail
  refine (Parse_any s _ hs).mono ?_; rintro e w3 ⟨rfl, rfl⟩; unfold Fx.R
  go_wp2_with fail
  refine (rParse_any s _ hs).mono ?_; rintro e w3 ⟨rfl, rfl⟩; unfold Fx.R
  go_wp2_with fail
  refine (awake_any _).mono ?_; rintro e w3 ⟨rfl, hb3⟩
  go_wp2_with fail
  refine (same_any _ _ _ _ _ rfl rfl).mono ?_; rintro e w4 ⟨rfl, rfl⟩
  go_wp2
  go_ret
  exact ⟨rfl, (bchain (bchain hb1 hb2) hb3)⟩
theorem FixTexts_walk (a : Int) (s : ByteArray) (w : World) (_ : (Lit.int .i64 a).wf = true) (hs : s.size ≤ maxLen) :
    Calls Try.prog 7 #[.int .i64 a, .string s] w fun e w' => e = .returned (.bool true) ∧ Below w.heap.size w w' := by
  unfold maxLen at hs
  cases ha : Fx.isF a
  · exact FixTexts_of a 1 s _ w hs (fun w => (Text_no a w ha).mono fun _ _ h => ⟨h.1, h.2 ▸ Below.refl _ _⟩) (fun w => (rText_no a w ha).mono fun _ _ h => ⟨h.1, h.2 ▸ Below.refl _ _⟩)
  · exact FixTexts_of a 0 s _ w hs (fun w => Text_ok a w ha) (fun w => rText_ok a w ha)

theorem FixBack_ne (a n f : Int) (s t : ByteArray) (w : World) (HT : Hid (∀ w : World, Calls Try.prog 31 #[.int .i64 a] w fun e w' => e = .returned (.tuple #[.string t, .int .i64 1]) ∧ Below w.heap.size w w')) (HQ : Hid (∀ w : World, Calls Try.prog 33 #[.string s] w fun e w' => e = .returned (.tuple #[.int .i64 n, .int .i64 f]) ∧ w = w')) (hf : f ≠ 0) (hn : n = 0) :
    Calls Try.prog 8 #[.int .i64 a, .string s] w fun e w' => e = .returned (.bool true) ∧ Below w.heap.size w w' := by
  have t1 : (f != 0) = true := by simpa using hf
  clear hf
  subst hn
  go_enter Try.func8, Try.ntmps8
  go_wp2_with fail
  refine (HT.out _).mono ?_; rintro e w1 ⟨rfl, hb1⟩
  go_wp2_with fail
  refine (HQ.out _).mono ?_; rintro e w2 ⟨rfl, rfl⟩
  go_wp2_with fail
  refine (awake_any _).mono ?_; rintro e w2 ⟨rfl, hb2⟩
  go_wp2
  go_ret
  exact ⟨rfl, (bchain hb1 hb2)⟩

theorem FixBack_no (a n f : Int) (s t : ByteArray) (w : World) (HT : Hid (∀ w : World, Calls Try.prog 31 #[.int .i64 a] w fun e w' => e = .returned (.tuple #[.string t, .int .i64 1]) ∧ Below w.heap.size w w')) (HQ : Hid (∀ w : World, Calls Try.prog 33 #[.string s] w fun e w' => e = .returned (.tuple #[.int .i64 n, .int .i64 f]) ∧ w = w')) (HU : Hid (∀ w : World, Calls Try.prog 31 #[.int .i64 n] w fun e w' => e = .returned (.tuple #[.string s, .int .i64 0]) ∧ Below w.heap.size w w')) (hf : f = 0) :
    Calls Try.prog 8 #[.int .i64 a, .string s] w fun e w' => e = .returned (.bool true) ∧ Below w.heap.size w w' := by
  subst hf

  go_enter Try.func8, Try.ntmps8
  go_wp2_with fail
  refine (HT.out _).mono ?_; rintro e w1 ⟨rfl, hb1⟩
  go_wp2_with fail
  refine (HQ.out _).mono ?_; rintro e w2 ⟨rfl, rfl⟩
  go_wp2_with fail
  refine (HU.out _).mono ?_; rintro e w2 ⟨rfl, hb2⟩
  go_wp2_with fail
  refine (awake_any _).mono ?_; rintro e w3 ⟨rfl, hb3⟩
  go_wp2
  go_ret
  exact ⟨rfl, (bchain (bchain hb1 hb2) hb3)⟩

theorem FixBack_oe (a n f : Int) (s t : ByteArray) (w : World) (HT : Hid (∀ w : World, Calls Try.prog 31 #[.int .i64 a] w fun e w' => e = .returned (.tuple #[.string t, .int .i64 0]) ∧ Below w.heap.size w w')) (HP : Hid (∀ w : World, Calls Try.prog 33 #[.string t] w fun e w' => e = .returned (.tuple #[.int .i64 a, .int .i64 0]) ∧ w = w')) (HQ : Hid (∀ w : World, Calls Try.prog 33 #[.string s] w fun e w' => e = .returned (.tuple #[.int .i64 n, .int .i64 f]) ∧ w = w')) (hf : f ≠ 0) (hn : n = 0) :
    Calls Try.prog 8 #[.int .i64 a, .string s] w fun e w' => e = .returned (.bool true) ∧ Below w.heap.size w w' := by
  have t1 : (f != 0) = true := by simpa using hf
  clear hf
  subst hn
  have t2 : (a != a) = false := by simp
  go_enter Try.func8, Try.ntmps8
  go_wp2_with fail
  refine (HT.out _).mono ?_; rintro e w1 ⟨rfl, hb1⟩
  go_wp2_with fail
  refine (HP.out _).mono ?_; rintro e w2 ⟨rfl, rfl⟩
  go_wp2_with fail
  refine (HQ.out _).mono ?_; rintro e w2 ⟨rfl, rfl⟩
  go_wp2_with fail
  refine (awake_any _).mono ?_; rintro e w2 ⟨rfl, hb2⟩
  go_wp2
  go_ret
  exact ⟨rfl, (bchain hb1 hb2)⟩

theorem FixBack_oo (a n f : Int) (s t : ByteArray) (w : World) (HT : Hid (∀ w : World, Calls Try.prog 31 #[.int .i64 a] w fun e w' => e = .returned (.tuple #[.string t, .int .i64 0]) ∧ Below w.heap.size w w')) (HP : Hid (∀ w : World, Calls Try.prog 33 #[.string t] w fun e w' => e = .returned (.tuple #[.int .i64 a, .int .i64 0]) ∧ w = w')) (HQ : Hid (∀ w : World, Calls Try.prog 33 #[.string s] w fun e w' => e = .returned (.tuple #[.int .i64 n, .int .i64 f]) ∧ w = w')) (HU : Hid (∀ w : World, Calls Try.prog 31 #[.int .i64 n] w fun e w' => e = .returned (.tuple #[.string s, .int .i64 0]) ∧ Below w.heap.size w w')) (hf : f = 0) :
    Calls Try.prog 8 #[.int .i64 a, .string s] w fun e w' => e = .returned (.bool true) ∧ Below w.heap.size w w' := by
  subst hf

  have t2 : (a != a) = false := by simp
  go_enter Try.func8, Try.ntmps8
  go_wp2_with fail
  refine (HT.out _).mono ?_; rintro e w1 ⟨rfl, hb1⟩
  go_wp2_with fail
  refine (HP.out _).mono ?_; rintro e w2 ⟨rfl, rfl⟩
  go_wp2_with fail
  refine (HQ.out _).mono ?_; rintro e w2 ⟨rfl, rfl⟩
  go_wp2_with fail
  refine (HU.out _).mono ?_; rintro e w2 ⟨rfl, hb2⟩
  go_wp2_with fail
  refine (awake_any _).mono ?_; rintro e w3 ⟨rfl, hb3⟩
  go_wp2
  go_ret
  exact ⟨rfl, (bchain (bchain hb1 hb2) hb3)⟩

theorem FixBack_walk (a : Int) (s : ByteArray) (w : World) (_ : (Lit.int .i64 a).wf = true) (hs : s.size ≤ maxLen) :
    Calls Try.prog 8 #[.int .i64 a, .string s] w fun e w' => e = .returned (.bool true) ∧ Below w.heap.size w w' := by
  unfold maxLen at hs
  have HQ := fun w => Parse_any s w hs
  obtain ⟨n, f, hp⟩ : ∃ n f, Fx.parse s.data.toList = (n, f) := ⟨_, _, rfl⟩
  rw [hp] at HQ
  have hT : Fx.isF a = false → ∀ w : World, Calls Try.prog 31 #[.int .i64 a] w fun e w' => e = .returned (.tuple #[.string ⟨#[]⟩, .int .i64 1]) ∧ Below w.heap.size w w' :=
    fun ha w => (Text_no a w ha).mono fun _ _ h => ⟨h.1, h.2 ▸ Below.refl _ _⟩
  have hP : Fx.isF a = true → ∀ w : World, Calls Try.prog 33 #[.string ⟨(Fx.textL a).toArray⟩] w fun e w' => e = .returned (.tuple #[.int .i64 a, .int .i64 0]) ∧ w = w' := fun ha w => by
    have hl : (⟨(Fx.textL a).toArray⟩ : ByteArray).size ≤ 9223372036854775807 := by
      have := Fx.digF_len 20 a.natAbs
      have h2 : (Fx.textL a).length ≤ 22 := by
        unfold Fx.textL
        rw [List.length_append]
        split <;> simp <;> omega
      have h3 : (⟨(Fx.textL a).toArray⟩ : ByteArray).size = (Fx.textL a).length := by simp [ByteArray.size]
      omega
    have := Parse_any ⟨(Fx.textL a).toArray⟩ w hl
    rw [show Fx.parse (⟨(Fx.textL a).toArray⟩ : ByteArray).data.toList = (a, 0) from Fx.parse_text a ha] at this
    exact this
  by_cases hf : f = 0
  · subst hf
    obtain ⟨hF, ht⟩ := Fx.text_parse _ _ hp
    have HU : ∀ w : World, Calls Try.prog 31 #[.int .i64 n] w fun e w' => e = .returned (.tuple #[.string s, .int .i64 0]) ∧ Below w.heap.size w w' := fun w => by
      have := Text_ok n w hF
      rw [ht] at this
      exact this
    cases ha : Fx.isF a
    · exact FixBack_no a n 0 s _ w (hT ha) HQ HU rfl
    · exact FixBack_oo a n 0 s _ w (fun w => Text_ok a w ha) (hP ha) HQ HU rfl
  · have hn := Fx.parse_err _ _ _ hp hf
    cases ha : Fx.isF a
    · exact FixBack_ne a n f s _ w (hT ha) HQ hf hn
    · exact FixBack_oe a n f s _ w (fun w => Text_ok a w ha) (hP ha) HQ hf hn
end Go.Proofs.Ytdiadoahcaoinaa
