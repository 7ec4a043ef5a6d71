/-
  Plain: what is ahead of the line that is told could stand so. No program in sight.
-/
import Derived.Test.YtomggdeinjediaaDoorScPrintP
namespace Go.Proofs.YtomggdeinjediaaDoor.Sc
open Go.RowKit
/-- the first lines of a text, so many, with their line feeds -/
def ahead : Nat → List UInt8 → List UInt8
  | 0, _ => []
  | k + 1, t => match line t with
    | none => []
    | some (l, r) => l ++ 10 :: ahead k r
/-- what is left behind them -/
def rest : Nat → List UInt8 → List UInt8
  | 0, t => t
  | k + 1, t => match line t with
    | none => []
    | some (_, r) => rest k r
/-- so many lines end in a text -/
def hasL : Nat → List UInt8 → Bool
  | 0, _ => true
  | k + 1, t => match line t with
    | none => false
    | some (_, r) => hasL k r
theorem ahead_line (k : Nat) (l r : List UInt8) (h : l.contains 10 = false) : ahead (k + 1) (l ++ 10 :: r) = l ++ 10 :: ahead k r := by
  rw [ahead, line_of l r h]
theorem hasL_line (k : Nat) (l r : List UInt8) (h : l.contains 10 = false) : hasL (k + 1) (l ++ 10 :: r) = hasL k r := by
  rw [hasL, line_of l r h]
theorem num_no10 (k : Nat) (n : Int) (h : 0 ≤ n) : (nm k ++ 32 :: dec n).contains 10 = false := by
  rw [contains_app, List.contains_cons, nm_no10, dec_no10 n h]; rfl
theorem ahead_nums : ∀ (l : List Int) (k j : Nat) (r : List UInt8), mayAll k l = true → ahead (l.length + j) (numsT k l ++ r) = numsT k l ++ ahead j r ∧ hasL (l.length + j) (numsT k l ++ r) = hasL j r := by
  intro l
  induction l with
  | nil => intro k j r _; simp [numsT]
  | cons n l ih =>
    intro k j r h
    unfold mayAll at h
    rw [Bool.and_eq_true] at h
    have h0 := (may_bd k n h.1).1
    have e : numsT k (n :: l) ++ r = (nm k ++ 32 :: dec n) ++ 10 :: (numsT (k + 1) l ++ r) := by rw [numsT]; unfold numLine; simp
    have e2 : (n :: l).length + j = (l.length + j) + 1 := by rw [List.length_cons]; omega
    obtain ⟨i1, i2⟩ := ih (k + 1) j r h.2
    rw [e, e2, ahead_line _ _ _ (num_no10 k n h0), hasL_line _ _ _ (num_no10 k n h0), i1, i2]
    refine ⟨?_, rfl⟩
    rw [numsT]; unfold numLine; simp
theorem nums_short : ∀ (f k : Nat) (v : List Int) (t : List UInt8) (n e : Int), f + k = 5 → nums f k v t = .err n e →
    (∃ l r, l.length < f ∧ mayAll k l = true ∧ t = numsT k l ++ r ∧ n = (k : Int) + l.length + 1) ∨ (∃ l r, l.length = f ∧ mayAll k l = true ∧ t = numsT k l ++ r ∧ tailP (mk (v ++ l)) r = .err n e) := by
  intro f
  induction f with
  | zero => intro k v t n e _ h; exact .inr ⟨[], t, rfl, rfl, rfl, by simpa [nums] using h⟩
  | succ f ih =>
    intro k v t n e hk h
    unfold nums at h
    split at h
    · injection h with h1 h2
      exact .inl ⟨[], t, by simp, rfl, rfl, by simp; omega⟩
    · rename_i m r hr
      obtain ⟨e1, hm⟩ := of_reads _ _ _ _ hr
      rcases ih (k + 1) _ _ _ _ (by omega) h with ⟨l, r2, h1, h2, h3, h4⟩ | ⟨l, r2, h1, h2, h3, h4⟩
      · exact .inl ⟨m :: l, r2, by simp; omega, by unfold mayAll; rw [hm, h2]; rfl, by rw [e1, h3, numsT, List.append_assoc], by rw [h4, List.length_cons]; omega⟩
      · exact .inr ⟨m :: l, r2, by simp; omega, by unfold mayAll; rw [hm, h2]; rfl, by rw [e1, h3, numsT, List.append_assoc], by simpa using h4⟩
theorem tail_short (s : Scr) (t : List UInt8) (n e : Int) (hw : s.w ≤ 256) (h : tailP s t = .err n e) : n = 6 ∨ (n = 7 ∧ ∃ p r, p ≠ [] ∧ p.length ≤ 400 ∧ allB s.w p = true ∧ t = picksT p ++ r) := by
  have hlast : ∀ (m : Int) (s : Scr) (l r : List UInt8), last m s l r = .err n e → n = m := by
    intro m s l r h
    unfold last at h
    split at h
    · cases h
    · injection h with h1 h2; exact h1.symm
  unfold tailP at h
  split at h
  · injection h with h1 h2; exact .inl h1.symm
  · rename_i l r hl
    split at h
    · exact .inl (hlast _ _ _ _ h)
    · rename_i ws hws
      split at h
      · injection h with h1 h2; exact .inl h1.symm
      · rename_i ps hps
        have hn : n = 7 := by
          split at h
          · injection h with h1 h2; exact h1.symm
          · exact hlast _ _ _ _ h
        obtain ⟨f1, f2, f3⟩ := of_picks s.w hw _ _ _ hps
        obtain ⟨a, m, g1, g2⟩ := join_cuts ws
        have hne : ps ≠ [] := by
          intro e
          rw [e, g1] at f1
          cases f1
        have hp : pickText ps = 32 :: ws := by
          rw [pickText_flat, ← f1, g1, List.map_cons, List.flatten_cons, List.cons_append, ← g2]
        refine .inr ⟨hn, ps, r, hne, by have := f3 (by omega); omega, f2, ?_⟩
        unfold picksT
        rw [if_neg hne, hp, (of_line _ _ _ hl).1, of_strip _ _ _ hws]
        simp [picks5, picksW]
/-- the numbers that are put behind -/
def dflt : List Int := [5, 1, 16, 1, 0]
theorem mayAll_app : ∀ (a b : List Int) (k : Nat), mayAll k (a ++ b) = (mayAll k a && mayAll (k + a.length) b) := by
  intro a
  induction a with
  | nil => intro b k; simp [mayAll]
  | cons n a ih =>
    intro b k
    rw [List.cons_append, mayAll, mayAll, ih, List.length_cons, Bool.and_assoc, show k + 1 + a.length = k + (a.length + 1) by omega]
theorem numsT_app : ∀ (a b : List Int) (k : Nat), numsT k (a ++ b) = numsT k a ++ numsT (k + a.length) b := by
  intro a
  induction a with
  | nil => intro b k; simp [numsT]
  | cons n a ih =>
    intro b k
    rw [List.cons_append, numsT, numsT, ih, List.length_cons, List.append_assoc, show k + 1 + a.length = k + (a.length + 1) by omega]
theorem mayAll_dflt (j : Nat) : mayAll j (dflt.drop j) = true := by
  match j with
  | 0 => decide
  | 1 => decide
  | 2 => decide
  | 3 => decide
  | 4 => decide
  | j + 5 => simp [dflt, mayAll]
/-- what is put behind the first lines -/
def behind (j : Nat) : List UInt8 := numsT j (dflt.drop j)
theorem scr_of (l : List Int) (p : List UInt8) (h : l.length = 5) (hm : mayAll 0 l = true) (hp : p.length ≤ 400) (ha : allB (l.getD 2 0) p = true) : ∃ s : Scr, check s = true ∧ s.x = [] ∧ body s = numsT 0 l ++ (picksT p ++ (program ++ [10])) := by
  obtain ⟨a, b, c, d, e, rfl⟩ := mayAll5 l h
  exact ⟨⟨a, b, c, d, e, p, []⟩, check_mk _ ⟨hm, hp, by simp, ha⟩, rfl, rfl⟩
theorem first_law (t : List UInt8) (n : Int) (h : parse t = .err n 250) : ∃ k : Nat, n = (k : Int) + 1 ∧ k ≤ 6 ∧ hasL k t = true ∧ ∃ s : Scr, parse (ahead k t ++ behind k ++ (program ++ [10])) = .ok s := by
  unfold parse at h
  split at h
  · injection h with _ h2; cases h2
  · have key : ∀ (l : List Int) (p : List UInt8), l.length = 5 → mayAll 0 l = true → p.length ≤ 400 → allB (l.getD 2 0) p = true → ∃ s : Scr, parse (numsT 0 l ++ (picksT p ++ (program ++ [10]))) = .ok s := by
      intro l p h1 h2 h3 h4
      obtain ⟨s, g1, g2, g3⟩ := scr_of l p h1 h2 h3 h4
      have hl := body_len s g1
      rw [g2] at hl
      exact ⟨s, by rw [← g3]; exact parse_body s g1 (by simp at hl; omega)⟩
    rcases nums_short 5 0 [] t n 250 rfl h with ⟨l, r, h1, h2, h3, h4⟩ | ⟨l, r, h1, h2, h3, h4⟩
    · obtain ⟨a1, a2⟩ := ahead_nums l 0 0 r h2
      rw [Nat.add_zero, ← h3] at a1 a2
      refine ⟨l.length, by omega, by omega, a2, ?_⟩
      rw [a1]
      have hm : mayAll 0 (l ++ dflt.drop l.length) = true := by rw [mayAll_app, h2, Nat.zero_add, mayAll_dflt]; rfl
      have hlen : (l ++ dflt.drop l.length).length = 5 := by rw [List.length_append, List.length_drop]; simp [dflt]; omega
      obtain ⟨s, hs⟩ := key _ [] hlen hm (by simp) rfl
      refine ⟨s, ?_⟩
      rw [← hs, numsT_app, Nat.zero_add]
      simp [ahead, behind, picksT]
    · obtain ⟨a, b, c, d, e, rfl⟩ := mayAll5 l h1
      have hk : mk ([] ++ [a, b, c, d, e]) = ⟨a, b, c, d, e, [], []⟩ := by simp [mk]
      rw [hk] at h4
      have hm := h2
      simp only [mayAll, Bool.and_eq_true] at hm
      have hw : c ≤ 256 := by
        have := hm.2.2.1
        unfold may low top at this
        simp at this
        omega
      have hb : behind 5 = [] ∧ behind 6 = [] := ⟨rfl, rfl⟩
      rcases tail_short ⟨a, b, c, d, e, [], []⟩ r n 250 hw h4 with hn | ⟨hn, p, r2, hne, hp, ha, ht⟩
      · obtain ⟨a1, a2⟩ := ahead_nums [a, b, c, d, e] 0 0 r h2
        rw [← h3] at a1 a2
        refine ⟨5, by omega, by omega, a2, ?_⟩
        obtain ⟨s, hs⟩ := key [a, b, c, d, e] [] rfl h2 (by simp) rfl
        refine ⟨s, ?_⟩
        rw [← hs, show ahead 5 t = _ from a1, hb.1]
        simp [ahead, picksT]
      · obtain ⟨a1, a2⟩ := ahead_nums [a, b, c, d, e] 0 1 r h2
        rw [← h3] at a1 a2
        have hpl : picksT p = (picks5 ++ pickText p) ++ [10] := by unfold picksT; rw [if_neg hne]
        have hno : (picks5 ++ pickText p).contains 10 = false := by rw [contains_app, pickText_no10]; rfl
        have er : r = (picks5 ++ pickText p) ++ 10 :: r2 := by rw [ht, hpl]; simp
        have e1 : ahead 1 r = picksT p := by rw [er, ahead_line 0 _ _ hno, hpl]; simp [ahead]
        have e2 : hasL 1 r = true := by rw [er, hasL_line 0 _ _ hno]; rfl
        refine ⟨6, by omega, by omega, by rw [← e2]; exact a2, ?_⟩
        obtain ⟨s, hs⟩ := key [a, b, c, d, e] p rfl h2 hp (by simpa using ha)
        refine ⟨s, ?_⟩
        rw [← hs, show ahead 6 t = _ from a1, e1, hb.2]
        simp
end Go.Proofs.YtomggdeinjediaaDoor.Sc
