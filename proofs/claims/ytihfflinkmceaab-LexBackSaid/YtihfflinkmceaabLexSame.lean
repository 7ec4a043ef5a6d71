/-
  The walk of SameWords at rows of the same words.
-/
import Derived.Test.YtihfflinkmceaabLexAwake
namespace Go.Proofs.Ytihfflinkmceaab
open Go.RowKit Go.Sort
namespace Lx
/-- a row of words, from a block's beginning on -/
def Row (w : World) (v : Value) (l : List PTok) : Prop :=
  (v = .slice none 0 0 ∧ l = []) ∨ ∃ g cap, v = .slice (some ⟨g, 0, none⟩) l.length cap ∧ ∀ j u, (flatT l)[j]? = some u → w.cell? ⟨g, j, none⟩ = some u
theorem flat_at : ∀ (l : List PTok) (k : Nat) (h : k < l.length) (i : Nat), i < 5 → (flatT l)[k * 5 + i]? = (cells5 l[k])[i]? := by
  intro l
  induction l with
  | nil => intro k h; exact absurd h (by simp)
  | cons a l ih =>
    intro k h i hi
    have e : flatT (a :: l) = cells5 a ++ flatT l := rfl
    rw [e]
    have h5 : (cells5 a).length = 5 := rfl
    cases k with
    | zero => rw [List.getElem?_append_left (by omega)]; simp
    | succ k =>
      rw [List.getElem?_append_right (by omega), h5, show (k + 1) * 5 + i - 5 = k * 5 + i by omega]
      simpa using ih k (by simpa using h) i hi
theorem Row.five {w : World} {g : Nat} {l : List PTok} (hc : ∀ j u, (flatT l)[j]? = some u → w.cell? ⟨g, j, none⟩ = some u) (k : Nat) (h : k < l.length) :
    w.cell? ⟨g, k * 5, none⟩ = some (.int .i64 l[k].t.k) ∧ w.cell? ⟨g, k * 5 + 1, none⟩ = some (.int .i64 (l[k].at_ : Int)) ∧ w.cell? ⟨g, k * 5 + 2, none⟩ = some (.int .i64 (l[k].to : Int)) ∧ w.cell? ⟨g, k * 5 + 3, none⟩ = some (.int .i64 l[k].t.n) ∧ w.cell? ⟨g, k * 5 + 4, none⟩ = some (.string ⟨l[k].t.s.toArray⟩) :=
  ⟨hc _ _ (flat_at l k h 0 (by omega)), hc _ _ (flat_at l k h 1 (by omega)), hc _ _ (flat_at l k h 2 (by omega)), hc _ _ (flat_at l k h 3 (by omega)), hc _ _ (flat_at l k h 4 (by omega))⟩
end Lx
set_option maxRecDepth 100000 in
set_option maxHeartbeats 2000000 in
theorem Same_any (w : World) (a b : Value) (l : List Lx.PTok) (ha : Lx.Row w a l) (hb : Lx.Row w b l) (hl : l.length ≤ 1000000) :
    Calls Try.prog 9 #[a, b] w fun e w' => e = .returned (.bool true) ∧ Below w.heap.size w w' := by
  rcases ha with ⟨rfl, rfl⟩ | ⟨g, cap, rfl, hca⟩
  · rcases hb with ⟨rfl, _⟩ | ⟨g, cap, rfl, hcb⟩
    · go_enter Try.func9, Try.ntmps9
      go_wp2_with fail
      go_loopw [5] (fun v wr => v = .int .i64 0 ∧ wr = w) (fun _ _ => 0)
      case atStart => exact ⟨rfl, rfl⟩
      case round =>
        obtain ⟨rfl, rfl⟩ := hrel
        go_wp2
        go_ret
        exact ⟨rfl, Below.refl _ _⟩
    · skip
      go_enter Try.func9, Try.ntmps9
      go_wp2_with fail
      go_loopw [5] (fun v wr => v = .int .i64 0 ∧ wr = w) (fun _ _ => 0)
      case atStart => exact ⟨rfl, rfl⟩
      case round =>
        obtain ⟨rfl, rfl⟩ := hrel
        go_wp2
        go_ret
        exact ⟨rfl, Below.refl _ _⟩
  · rcases hb with ⟨rfl, rfl⟩ | ⟨g', cap', rfl, hcb⟩
    · skip
      go_enter Try.func9, Try.ntmps9
      go_wp2_with fail
      go_loopw [5] (fun v wr => v = .int .i64 0 ∧ wr = w) (fun _ _ => 0)
      case atStart => exact ⟨rfl, rfl⟩
      case round =>
        obtain ⟨rfl, rfl⟩ := hrel
        go_wp2
        go_ret
        exact ⟨rfl, Below.refl _ _⟩
    · go_enter Try.func9, Try.ntmps9
      go_wp2_with fail
      go_loopw [5] (fun v wr => ∃ k : Nat, v = .int .i64 k ∧ k ≤ l.length ∧ ∃ q, wr = w.drewN q) (fun v _ => l.length - (intOf v).toNat)
      case atStart => exact ⟨0, rfl, by omega, 0, rfl⟩
      case round =>
        obtain ⟨k, rfl, hk, q, rfl⟩ := hrel
        by_cases hlt : k < l.length
        · have hlti : (k : Int) < (l.length : Int) := by omega
          obtain ⟨a0, a1, a2, a3, a4⟩ := Lx.Row.five hca k hlt
          obtain ⟨b0, b1, b2, b3, b4⟩ := Lx.Row.five hcb k hlt
          have HA := Lib.hid hca
          have HB := Lib.hid hcb
          clear hca hcb
          go_wp2
          go_quiet (fail)
          go_wp2
          exact ⟨⟨k + 1, by simp, by omega, _, rfl⟩, by simp [intOf]; omega⟩
        · have hge : (l.length : Int) ≤ (k : Int) := by omega
          go_wp2
          go_ret
          exact ⟨rfl, below_drewN (Below.refl _ _) _⟩
end Go.Proofs.Ytihfflinkmceaab
