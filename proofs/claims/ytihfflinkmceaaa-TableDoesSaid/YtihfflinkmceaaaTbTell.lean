/-
  What a table tells, as a row; two rows of the same are equal.
-/
import Derived.Test.YtihfflinkmceaaaTbAll
import Derived.Test.YtihfflinkmceaaaTbNone
namespace Go.Proofs.Ytihfflinkmceaaa
open Go.RowKit Go.Maps Go.Sort Go.Shelf
attribute [local go_sem] Oper.semAt_some
namespace Tb
/-- a row of globals, from a block's beginning on -/
def GRow (w : World) (v : Value) (l : List (Nm × V)) : Prop :=
  (v = .slice none 0 0 ∧ l = []) ∨ ∃ g cap, v = .slice (some ⟨g, 0, none⟩) l.length cap ∧ g < w.heap.size ∧ ∀ j u, (flatG l)[j]? = some u → w.cell? ⟨g, j, none⟩ = some u
theorem flatG_length (l : List (Nm × V)) : (flatG l).length = l.length * 3 := by
  induction l with
  | nil => rfl
  | cons a l ih =>
    have e : flatG (a :: l) = cells3 a ++ flatG l := rfl
    rw [e, List.length_append, ih]
    have : (cells3 a).length = 3 := rfl
    simp; omega
theorem GRow.of_own {w : World} {b : Nat} {v : Value} {l : List (Nm × V)} (h : w.ownsRow b 49 3 v l.length (flatG l)) : GRow w v l := by
  rcases h.2 with ⟨rfl, hz⟩ | ⟨g, cap, cur, rfl, _, hgh, _, _, _, hc⟩
  · exact .inl ⟨rfl, List.eq_nil_of_length_eq_zero hz⟩
  · refine .inr ⟨g, cap, rfl, (Array.getElem?_eq_some_iff.1 hgh).1, fun j u hj => ?_⟩
    have hlt : j < l.length * 3 := by rw [← flatG_length]; exact (List.getElem?_eq_some_iff.1 hj).1
    rw [← hc, List.getElem?_take_of_lt hlt] at hj
    unfold World.cell?
    rw [hgh]
    show cur[j]? = _
    rw [← Array.getElem?_toList]
    exact hj
theorem GRow.below {w w' : World} {v : Value} {l : List (Nm × V)} (h : GRow w v l) (hb : Below w.heap.size w w') : GRow w' v l := by
  rcases h with h | ⟨g, cap, h1, h2, h3⟩
  · exact .inl h
  · exact .inr ⟨g, cap, h1, Nat.lt_of_lt_of_le h2 hb.size, fun j u hj => (hb.cell (p := ⟨g, j, none⟩) h2).trans (h3 j u hj)⟩
theorem flatG_at : ∀ (l : List (Nm × V)) (k : Nat) (h : k < l.length) (i : Nat), i < 3 → (flatG l)[k * 3 + i]? = (cells3 l[k])[i]? := by
  intro l
  induction l with
  | nil => intro k h; exact absurd h (by simp)
  | cons a l ih =>
    intro k h i hi
    have e : flatG (a :: l) = cells3 a ++ flatG l := rfl
    rw [e]
    have h5 : (cells3 a).length = 3 := rfl
    cases k with
    | zero => rw [List.getElem?_append_left (by omega)]; simp
    | succ k =>
      rw [List.getElem?_append_right (by omega), h5, show (k + 1) * 3 + i - 3 = k * 3 + i by omega]
      simpa using ih k (by simpa using h) i hi
theorem GRow.three {w : World} {g : Nat} {l : List (Nm × V)} (hc : ∀ j u, (flatG l)[j]? = some u → w.cell? ⟨g, j, none⟩ = some u) (k : Nat) (h : k < l.length) :
    w.cell? ⟨g, k * 3, none⟩ = some (.string ⟨l[k].1.toArray⟩) ∧ w.cell? ⟨g, k * 3 + 1, none⟩ = some (.int .i64 l[k].2.1) ∧ w.cell? ⟨g, k * 3 + 2, none⟩ = some (.int .i64 l[k].2.2) :=
  ⟨hc _ _ (flatG_at l k h 0 (by omega)), hc _ _ (flatG_at l k h 1 (by omega)), hc _ _ (flatG_at l k h 2 (by omega))⟩
end Tb
set_option maxRecDepth 100000 in
set_option maxHeartbeats 2000000 in
theorem Equal_any (w : World) (a b : Value) (l : List (Tb.Nm × Tb.V)) (ha : Tb.GRow w a l) (hb : Tb.GRow w b l) (hl : l.length ≤ 4096) :
    Calls Try.prog 17 #[a, b] w fun e w' => e = .returned (.bool true) ∧ Below w.heap.size w w' := by
  by_cases h0 : l = []
  · subst h0
    have e1 : ∃ p c, a = .slice p 0 c := by
      rcases ha with ⟨rfl, _⟩ | ⟨g, cap, rfl, _⟩
      · exact ⟨_, _, rfl⟩
      · exact ⟨_, _, rfl⟩
    have e2 : ∃ p c, b = .slice p 0 c := by
      rcases hb with ⟨rfl, _⟩ | ⟨g, cap, rfl, _⟩
      · exact ⟨_, _, rfl⟩
      · exact ⟨_, _, rfl⟩
    obtain ⟨p, c, rfl⟩ := e1
    obtain ⟨p', c', rfl⟩ := e2
    clear ha hb
    go_enter Try.func17, Try.ntmps17
    go_wp2
    go_loopw [13] (fun v wr => v = .int .i64 0 ∧ wr = w) (fun _ _ => 0)
    case atStart => exact ⟨rfl, rfl⟩
    case round =>
      obtain ⟨rfl, rfl⟩ := hrel
      go_wp2
      go_ret
      exact ⟨rfl, Below.refl _ _⟩
  · rcases ha with ⟨_, h⟩ | ⟨g, cap, rfl, _, hca⟩
    · exact absurd h h0
    rcases hb with ⟨_, h⟩ | ⟨g', cap', rfl, _, hcb⟩
    · exact absurd h h0
    clear h0
    have HA := Lib.hid hca
    have HB := Lib.hid hcb
    clear hca hcb
    go_enter Try.func17, Try.ntmps17
    go_wp2
    go_loopw [13] (fun v wr => ∃ k : Nat, v = .int .i64 k ∧ k ≤ l.length ∧ ∃ q, wr = w.drewN q) (fun v _ => l.length - (intOf v).toNat)
    case atStart => exact ⟨0, rfl, by omega, 0, rfl⟩
    case round =>
      obtain ⟨k, rfl, hk, q, rfl⟩ := hrel
      by_cases hlt : k < l.length
      · have hlti : (k : Int) < (l.length : Int) := by omega
        obtain ⟨a0, a1, a2⟩ := Tb.GRow.three HA.out k hlt
        obtain ⟨b0, b1, b2⟩ := Tb.GRow.three HB.out k hlt
        go_wp2
        go_quiet (fail)
        go_wp2
        go_roundw
        case rel => exact ⟨k + 1, by simp, by omega, _, rfl⟩
        case measure => simp [intOf]; omega
      · have hge : (l.length : Int) ≤ (k : Int) := by omega
        go_wp2
        go_ret
        exact ⟨rfl, (Keep.refl (fun _ => False) w).drew _ |>.to_below (fun _ h => h.elim) (Nat.le_refl _)⟩
theorem All_stops (B Bs T n lo hi : Nat) (M : Nat → Nat) (L : List (Tb.Nm × Tb.V)) (w : World) (hT : Tb.Tab w T n lo hi M L) (hBs : w.cell? ⟨Bs, 0, none⟩ = some (.pointer (some ⟨T, 0, none⟩))) (hB : w.cell? ⟨B, 0, none⟩ = some (.slice none 0 0)) (hBl : B < w.heap.size) (hTB : T ≠ B) (hBB : Bs ≠ B) (hnm : ∀ p ∈ L, p.1.length ≤ 1000) :
    SeqStopsK Fence.wide 8 Try.prog 29 #[.pointer (some ⟨Bs, 0, none⟩)] Tb.encG (Tb.KpM B) (fun ys => ys = L) (fun pre => pre <+: L) L.length w := fun l J Jx W hW hJ _ hY h0 =>
  All1_in 8 (by omega) l Bs B T n lo hi M L J Jx W hJ hY (hT.below hW) ((hW.cell (p := ⟨Bs, 0, none⟩) (block_lt_of_cell hBs)).trans hBs) ((hW.cell (p := ⟨B, 0, none⟩) hBl).trans hB) (Nat.lt_of_lt_of_le hBl hW.size) hTB hBB hnm h0
theorem told_tab {T n lo hi : Nat} {M : Nat → Nat} {L : List (Tb.Nm × Tb.V)} (Bs m : Nat) (hm : m ≤ 1048576) (w : World) (hT : Tb.Tab w T n lo hi M L) (hBs : w.cell? ⟨Bs, 0, none⟩ = some (.pointer (some ⟨T, 0, none⟩))) (hnm : ∀ p ∈ L, p.1.length ≤ 1000) :
    Calls Try.prog 18 #[.func (.func 29) #[] #[.pointer (some ⟨Bs, 0, none⟩)], .int .i64 (m : Int)] w fun e W' => ∃ v, e = .returned v ∧ Tb.GRow W' v (L.take m) ∧ Below w.heap.size w W' := by
  have hTl : T < w.heap.size := Nat.lt_of_lt_of_le hT.lt.2 hT.hh
  have hBl : Bs < w.heap.size := block_lt_of_cell hBs
  refine (told_gen Bs L m hm w hT.len (fun W0 B hb hc hl hge => All_stops B Bs T n lo hi M L W0 (hT.below hb) ((hb.cell (p := ⟨Bs, 0, none⟩) hBl).trans hBs) hc hl (by omega) (by omega) hnm)).mono ?_
  rintro e w' ⟨v, rfl, hr, hb⟩
  exact ⟨v, rfl, Tb.GRow.of_own hr, hb⟩
end Go.Proofs.Ytihfflinkmceaaa
