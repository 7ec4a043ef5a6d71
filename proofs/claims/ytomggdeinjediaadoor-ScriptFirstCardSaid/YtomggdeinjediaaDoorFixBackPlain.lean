/-
  Plain: a number's text is read as the number, and what is read of a text has that text. No program in sight.
-/
import Derived.Test.YtomggdeinjediaaDoorFixParseR
namespace Go.Proofs.YtomggdeinjediaaDoor.Fx
open Go.RowKit
theorem digU_toNat (n : Nat) : (digU n).toNat = 48 + n % 10 := by
  unfold digU
  rw [UInt8.toNat_ofNat']
  omega
theorem digU_isD (n : Nat) : isD (digU n) = true := by
  unfold isD; rw [digU_toNat]; simp; omega
theorem digF_val : ∀ (f n : Nat), n < 10 ^ (f + 1) → val (digF f n) = n
  | 0, n => fun h => by
    have : n < 10 := by simpa using h
    simp only [digF, val, List.foldl_cons, List.foldl_nil, digU_toNat]
    omega
  | f + 1, n => fun h => by
    unfold digF
    split
    · simp only [val, List.foldl_cons, List.foldl_nil, digU_toNat]; omega
    · rw [val_snoc, digF_val f (n / 10) (by rw [Nat.pow_succ] at h; omega), digU_toNat]; omega
theorem digF_all : ∀ (f n : Nat), (digF f n).all isD = true
  | 0, n => by simp [digF, digU_isD]
  | f + 1, n => by
    unfold digF
    split
    · simp [digU_isD]
    · rw [List.all_append, digF_all f (n / 10)]; simp [digU_isD]
theorem digF_head : ∀ (f n : Nat), n < 10 ^ (f + 1) → ∃ c l, digF f n = c :: l ∧ (l = [] ∨ c.toNat ≠ 48) ∧ (1 ≤ n → c.toNat ≠ 48)
  | 0, n => fun h => by
    have : n < 10 := by simpa using h
    exact ⟨_, [], rfl, .inl rfl, fun h1 => by rw [digU_toNat]; omega⟩
  | f + 1, n => fun h => by
    unfold digF
    split
    · exact ⟨_, [], rfl, .inl rfl, fun h1 => by rw [digU_toNat]; omega⟩
    · obtain ⟨c, l, e, _, h3⟩ := digF_head f (n / 10) (by rw [Nat.pow_succ] at h; omega)
      exact ⟨c, l ++ [digU n], by rw [e]; rfl, .inr (h3 (by omega)), fun _ => h3 (by omega)⟩
theorem digF_length : ∀ (L f n : Nat), n < 10 ^ (L + 1) → (digF f n).length ≤ L + 1 := by
  intro L
  induction L with
  | zero =>
    intro f n h
    have h10 : n < 10 := by simpa using h
    cases f with
    | zero => simp [digF]
    | succ f => simp [digF, h10]
  | succ L ih =>
    intro f n h
    cases f with
    | zero => simp [digF]
    | succ f =>
      unfold digF
      split
      · simp
      · have := ih f (n / 10) (by rw [Nat.pow_succ] at h; omega)
        simp only [List.length_append, List.length_singleton]; omega
theorem c48 {c : UInt8} (h : c.toNat ≠ 48) : (some c == some (48 : UInt8)) = false := by
  rw [beq_eq_false_iff_ne]; intro e; injection e with e; rw [e] at h; exact h rfl
theorem c45 {c : UInt8} (h : isD c = true) : (some c == some (45 : UInt8)) = false := by
  rw [beq_eq_false_iff_ne]; intro e; injection e with e; rw [e] at h; revert h; decide
theorem parse_text (a : Int) (ha : isF a = true) : parse (textL a) = (a, 0) := by
  have ba := isF_bd ha
  have hN : a.natAbs < 10 ^ 21 := Nat.lt_of_le_of_lt (show a.natAbs ≤ 1152921504606846976 by omega) (by decide)
  have hN19 : a.natAbs < 10 ^ 19 := Nat.lt_of_le_of_lt (show a.natAbs ≤ 1152921504606846976 by omega) (by decide)
  obtain ⟨c, l, e, h1, h2⟩ := digF_head 20 a.natAbs hN
  have hv := digF_val 20 a.natAbs hN
  have hall := digF_all 20 a.natAbs
  have hlen := digF_length 18 20 a.natAbs hN19
  have hc : isD c = true := by rw [e] at hall; simp at hall; exact hall.1
  by_cases h0 : a < 0
  · have et : textL a = 45 :: digF 20 a.natAbs := by unfold textL; rw [if_pos h0]; rfl
    have hd : dig (textL a) = digF 20 a.natAbs := by rw [et]; rfl
    have hn : neg (textL a) = true := by rw [et]; rfl
    have hf : form (textL a) = true := by
      unfold form
      rw [hd, hall, e, show (c :: l).head? = some c from rfl, c48 (h2 (by omega))]; rfl
    unfold parse
    rw [if_pos hf, hd, if_neg (by omega), hn, hv]
    unfold signedV
    rw [if_neg (by omega), if_pos rfl, show (-(a.natAbs : Int)) = a from by omega]
    exact fitsV_ok ha
  · have et : textL a = digF 20 a.natAbs := by unfold textL; rw [if_neg h0]; rfl
    have hq : (textL a).head? = some c := by rw [et, e]; rfl
    have hd : dig (textL a) = digF 20 a.natAbs := by
      unfold dig
      rw [if_neg (by rw [hq]; exact beq_eq_false_iff_ne.1 (c45 hc)), et]
    have hn : neg (textL a) = false := by unfold neg; rw [hq]; exact c45 hc
    have hf : form (textL a) = true := by
      unfold form
      rw [hd, hall, et, e]
      rcases h1 with h1 | h1
      · subst h1; simp
      · rw [show (c :: l).head? = some c from rfl, c48 h1]; rfl
    unfold parse
    rw [if_pos hf, hd, if_neg (by omega), hn, hv]
    unfold signedV
    rw [if_neg (by omega), if_neg (by decide), show ((a.natAbs : Nat) : Int) = a from by omega]
    exact fitsV_ok ha
theorem val_pos (c : UInt8) (l : List UInt8) (hc : isD c = true) (h : c.toNat ≠ 48) (hl : l.all isD = true) : 1 ≤ val (c :: l) := by
  have h1 : 1 ≤ c.toNat - 48 := by simp [isD] at hc; omega
  have := val_ge c l h1 hl
  exact Nat.le_trans (Nat.pow_pos (by omega)) this
theorem digF_of : ∀ (r : List UInt8) (f : Nat), r.length ≤ f + 1 → r ≠ [] → r.all isD = true → (r.length = 1 ∨ ∃ c l, r.reverse = c :: l ∧ c.toNat ≠ 48) → digF f (val r.reverse) = r.reverse := by
  intro r
  induction r with
  | nil => intro f _ h; exact absurd rfl h
  | cons c r ih =>
    intro f hf _ hall hh
    have hc : isD c = true ∧ r.all isD = true := by simpa using hall
    have hcn : 48 ≤ c.toNat ∧ c.toNat ≤ 57 := by simpa [isD] using hc.1
    have hu : ∀ v, digU (10 * v + (c.toNat - 48)) = c := fun v => UInt8.toNat_inj.1 (by rw [digU_toNat]; omega)
    rw [List.reverse_cons, val_snoc]
    cases r with
    | nil =>
      simp only [List.reverse_nil, List.nil_append, val, List.foldl_nil]
      have := hu 0
      cases f with
      | zero => simp only [digF]; rw [this]
      | succ f => rw [digF, if_pos (by omega), this]
    | cons d r =>
      obtain ⟨c', l', hr, hne⟩ : ∃ c l, (d :: r).reverse = c :: l ∧ c.toNat ≠ 48 := by
        rcases hh with hh | ⟨c', l', hr, hne⟩
        · simp at hh
        · rw [List.reverse_cons] at hr
          cases hrev : (d :: r).reverse with
          | nil => simp at hrev
          | cons x y => rw [hrev] at hr; injection hr with h1 _; exact ⟨x, y, rfl, by rw [h1]; exact hne⟩
      have hpos : 1 ≤ val (d :: r).reverse := by
        have ha : ((d :: r).reverse).all isD = true := by rw [List.all_reverse]; exact hc.2
        rw [hr] at ha ⊢
        have : isD c' = true ∧ l'.all isD = true := by simpa using ha
        exact val_pos c' l' this.1 hne this.2
      cases f with
      | zero => simp at hf
      | succ f =>
        have h2 := ih f (by simp at hf ⊢; omega) (by simp) hc.2 (.inr ⟨c', l', hr, hne⟩)
        rw [digF, if_neg (by omega), hu, show (10 * val (d :: r).reverse + (c.toNat - 48)) / 10 = val (d :: r).reverse from by omega, h2]
theorem digF_of' (l : List UInt8) (f : Nat) (h1 : l.length ≤ f + 1) (h2 : l ≠ []) (h3 : l.all isD = true) (h4 : l.length = 1 ∨ ∃ c m, l = c :: m ∧ c.toNat ≠ 48) : digF f (val l) = l := by
  have := digF_of l.reverse f (by simpa using h1) (by simpa using h2) (by rw [List.all_reverse]; exact h3) (by simpa using h4)
  rwa [List.reverse_reverse] at this
theorem fitsV_0 {n m : Int} (h : fitsV n = (m, 0)) : isF n = true ∧ m = n := by
  cases hn : isF n
  · rw [fitsV_no hn] at h; cases h
  · rw [fitsV_ok hn] at h; injection h with h _; exact ⟨rfl, h.symm⟩
theorem text_parse (s : List UInt8) (n : Int) (h : parse s = (n, 0)) : isF n = true ∧ textL n = s := by
  unfold parse at h
  split at h
  case isFalse => cases h
  rename_i hf
  split at h
  · cases h
  rename_i hl
  unfold signedV at h
  split at h
  · cases h
  obtain ⟨hF, hn⟩ := fitsV_0 h
  rw [← hn] at hF
  refine ⟨hF, ?_⟩
  unfold form at hf
  simp only [Bool.and_eq_true, Bool.not_eq_true', List.isEmpty_eq_false_iff] at hf
  obtain ⟨⟨h1, h2⟩, h3⟩ := hf
  cases hd : dig s with
  | nil => exact absurd hd h1
  | cons c l =>
    rw [hd] at hn h2 h3 hl
    have hca : isD c = true ∧ l.all isD = true := by simpa using h3
    cases hg : neg s
    · rw [hg, if_neg (by decide)] at hn
      have hs : s = c :: l := by
        rw [← hd]; unfold dig; rw [if_neg]; exact beq_eq_false_iff_ne.1 hg
      have h4 : (c :: l).length = 1 ∨ ∃ d m, c :: l = d :: m ∧ d.toNat ≠ 48 := by
        by_cases hc : c.toNat = 48
        · left
          have : c = 48 := UInt8.toNat_inj.1 (by rw [hc]; rfl)
          rw [hs, this] at h2
          have h6 : decide (1 < (48 :: l).length) = false := h2
          have h7 : ¬ 1 < (48 :: l).length := of_decide_eq_false h6
          simp only [List.length_cons] at h7 ⊢
          omega
        · exact .inr ⟨c, l, rfl, hc⟩
      have := digF_of' (c :: l) 20 (by omega) (by simp) h3 h4
      unfold textL
      rw [hn, if_neg (by omega), Int.natAbs_natCast, this, hs]; rfl
    · rw [hg, if_pos rfl] at hn
      have hh : s.head? = some 45 := by simpa [neg] using hg
      have hs : s = 45 :: c :: l := by
        rw [← hd]; unfold dig; rw [if_pos hh]
        cases s with
        | nil => cases hh
        | cons x y => injection hh with hx; rw [hx]; rfl
      have hc : c.toNat ≠ 48 := fun hc => by
        have : c = 48 := UInt8.toNat_inj.1 (by rw [hc]; rfl)
        rw [hs, this] at h2
        have h6 : decide (1 < (45 :: 48 :: l).length) = false := h2
        simp at h6
      have hv := val_pos c l hca.1 hc hca.2
      have := digF_of' (c :: l) 20 (by omega) (by simp) h3 (.inr ⟨c, l, rfl, hc⟩)
      unfold textL
      rw [hn, if_pos (by omega), Int.natAbs_neg, Int.natAbs_natCast, this, hs]; rfl
theorem parse_err (s : List UInt8) (n k : Int) (h : parse s = (n, k)) (hk : k ≠ 0) : n = 0 := by
  unfold parse signedV fitsV at h
  split at h
  · split at h
    · injection h with h _; exact h.symm
    · split at h
      · injection h with h _; exact h.symm
      · split at h
        all_goals
          split at h
          · injection h with _ h; exact absurd h.symm hk
          · injection h with h _; exact h.symm
  · injection h with h _; exact h.symm
end Go.Proofs.YtomggdeinjediaaDoor.Fx
