/-
  The walk of LexPlaces.
-/
import Derived.Test.YtggkohbfgnbgeaaLexAwake
import Derived.Test.YtggkohbfgnbgeaaLexPlacesW
namespace Go.Proofs.Ytggkohbfgnbgeaa
open Go.RowKit Go.Sort
set_option maxRecDepth 100000 in
set_option maxHeartbeats 1000000 in
theorem LexPlaces_walk (s : ByteArray) (a : Int) (w : World) (hs : s.size ≤ 9223372036854775807) (ha : (Lit.int .i64 a).wf = true) :
    Calls Try.prog 6 #[.string s, .int .i64 a] w fun e w' => e = .returned (.bool true) ∧ Below w.heap.size w w' := by
  have ha' : -9223372036854775808 ≤ a ∧ a ≤ 9223372036854775807 := by
    simpa [Lit.wf, IntKind.min, IntKind.max, IntKind.signed, IntKind.bits] using ha
  by_cases hl : 100000 < s.size
  · have hli : 100000 < (s.size : Int) := by omega
    go_enter Try.func6, Try.ntmps6
    go_wp2_with fail
    refine (awake_any _).mono ?_
    rintro e w2 ⟨rfl, hb2⟩
    go_wp2_with fail
    refine (awake_any _).mono ?_
    rintro e w3 ⟨rfl, hb3⟩
    go_wp2
    go_ret
    exact ⟨rfl, bchain hb2 hb3⟩
  · have hli : ¬ 100000 < (s.size : Int) := by omega
    obtain ⟨p, q, hpq⟩ : ∃ p q : Nat, Lx.PlaceV s a = .tuple #[.int .i64 p, .int .i64 q] := ⟨_, _, rfl⟩
    have hP := fun w => Place_any s a w (by omega) ha'
    have hQ := fun w => PlaceR_any s a w (by omega) ha'
    rw [hpq] at hP hQ
    clear ha hpq
    go_enter Try.func6, Try.ntmps6
    go_wp2_with fail
    refine (awake_any _).mono ?_
    rintro e w2 ⟨rfl, hb2⟩
    go_wp2_with fail
    refine (hP _).mono ?_
    rintro e w3 ⟨rfl, rfl⟩
    go_wp2_with fail
    refine (hQ _).mono ?_
    rintro e w3 ⟨rfl, rfl⟩
    go_wp2
    go_ret
    exact ⟨by simp, hb2⟩
end Go.Proofs.Ytggkohbfgnbgeaa
